/- The instructions that look at memory, or write it. -/
import Derived.Test.YtpklkpkfgmoghaaGreatDoorZI
import Derived.Laws.Rows
import Derived.Deep.AppendSrc
import Derived.Laws.CopyRow
import Derived.Deep.OwnRows
import Derived.Laws.MakeOwn
set_option linter.unnecessarySimpa false
set_option linter.unusedVariables false
set_option linter.unusedSimpArgs false
namespace Go.Proofs.YtpklkpkfgmoghaaGreatDoor.Zz
variable {P:Program} {κ:cT} {h:aa} {w:World} {σ:Fr} {n:Nat} {a:Act}
theorem kJ {t:TypeId} {k:Option Nat} (hs:shapeOf P t=some k) {ad:Addr} {ds:List D} {off:Nat} {d:D} (e:iF ds off k=some d)
  (hc:∀j d,ds[off+j]? =some d→∃v,w.cell? (ad.add j)=some v∧cL κ w v d):∃v,(loadVar t ad).run P w=.ok v w∧cL κ w v d:=by
 cases k with
 | none=>
  obtain ⟨h1,_⟩:=rb hs w
  simp only [iF] at e
  obtain ⟨v,e1,r⟩:=hc 0 d (by simpa using e)
  have e1':w.cell? ad=some v:=by simpa [Addr.add] using e1
  exact ⟨v,by simp [loadVar,h1,e1'],r⟩
 | some m=>
  obtain ⟨h1,h2⟩:=re hs w
  simp only [iF] at e
  split at e
  ·rename_i hl
   cases e
   have hex:∀j,∃v,j<m→w.cell? (ad.add j)=some v∧∀d,ds[off+j]? =some d→cL κ w v d:=fun j=>by
    by_cases hj:j<m
    ·have ig:off+j<ds.length:=by omega
     obtain ⟨v,e1,r⟩:=hc j ds[off+j] (by simp [ig])
     exact ⟨v,fun _=>⟨e1,fun d hd=>by simp [ig] at hd; subst hd; exact r⟩⟩
    ·exact ⟨undef,fun h=>absurd h hj⟩
   obtain ⟨f,hf⟩:=Classical.axiomOfChoice hex
   have hr:=run_loadCells (P:=P) w ad m f fun j hj=>(hf j hj).1
   refine ⟨.agg ((List.range m).map f).toArray,by simp [loadVar,h1,run_sizeOf h2,hr],cn.agg ?_⟩
   refine cn.qP (by simp; omega) fun i d hd=>?_
   rw [List.getElem?_take] at hd
   split at hd
   ·rename_i hi
    rw [List.getElem?_drop] at hd
    exact ⟨f i,by simp [hi],(hf i hi).2 d hd⟩
   ·cases hd
  ·cases e
theorem wO [aT] (hi:Inv κ h w) {t:TypeId} {k:Option Nat} (hs:shapeOf P t=some k) {u:Value} {x d:D} (r:cL κ w u x) (e:fj h k x=some d):
  ∃v,(Instr.loadAt t u).run P w=.ok v w∧cL κ w v d:=by
 unfold fj at e
 split at e
 ·split at e
  ·rename_i ds ho
   split at e
   ·rename_i vJ
    subst vJ
    cases r with
    | ptr hl hv ha=>
    rename_i id off _ p a
    obtain ⟨p',hp,hr⟩:=hi.obj _ _ ho
    rw [hl] at hp
    cases hp
    obtain ⟨h1,h2,h3,cs,ty,h4,h5,h6⟩:=hr
    have tf:=ha h1
    subst tf
    obtain ⟨v,e1,e2⟩:=kJ (P:=P) (κ:=κ) (w:=w) hs e (ad:=⟨p.blk,p.base+off,none⟩) fun j d hd=>by
     obtain ⟨v,g1,g2⟩:=h6 _ d hd
     refine ⟨v,?_,g2⟩
     rw [eM,cell_of_row w _ _ cs ty _ h4,←g1,h2]
     congr 1
     omega
    exact ⟨v,by simp [Instr.loadAt,Instr.sureAddr,e1],e2⟩
   ·cases e
  ·cases e
 ·cases r with
  | cO f hb hc hr=>
  rename_i cells off b base
  obtain ⟨v,e1,e2⟩:=kJ (P:=P) (κ:=κ) (w:=w) hs e (ad:=⟨b,base+off,none⟩) fun j d hd=>⟨f _,by rw [eM,Nat.add_assoc]; exact hc _ d hd,hr _ d hd⟩
  exact ⟨v,by simp [Instr.loadAt,Instr.sureAddr,e1],e2⟩
 ·split at e
  ·rename_i sz cC xs fz ho
   split at e
   ·rename_i vJ
    subst vJ
    split at e
    ·rename_i x hx
     cases r with
     | fT hl hv ha=>
     rename_i p a
     obtain ⟨p',hp,hr⟩:=hi.obj _ _ ho
     rw [hl] at hp
     cases hp
     obtain ⟨h1,ov,h2,h3,h4,h5,Fl,h6,cs,ty,h7,h8,h9⟩:=hr
     have tf:=ha h1
     obtain ⟨v,e1,e2⟩:=kJ (P:=P) (κ:=κ) (w:=w) hs e (ad:=a) fun j d hd=>by
      obtain ⟨v,g1,g2⟩:=h9 _ x _ d hx hd
      refine ⟨v,?_,g2⟩
      rw [tf,eM,cell_of_row w _ _ cs ty _ h7,←g1,h2]
      congr 1
      omega
     exact ⟨v,by simp [Instr.loadAt,Instr.sureAddr,e1],e2⟩
    ·cases e
   ·cases e
  ·rename_i sz cC xs du ho
   split at e
   ·rename_i vJ
    subst vJ
    split at e
    ·rename_i x hx
     cases r with
     | fT hl hv ha=>
     rename_i p a
     obtain ⟨p',hp,hr⟩:=hi.obj _ _ ho
     rw [hl] at hp
     cases hp
     obtain ⟨h1,ov,h2,h3,h4,h5,Fl,h6,⟨cs,ty,h7,h8,h9⟩,_⟩:=hr
     have tf:=ha h1
     obtain ⟨v,e1,e2⟩:=kJ (P:=P) (κ:=κ) (w:=w) hs e (ad:=a) fun j d hd=>by
      obtain ⟨v,g1,g2⟩:=h9 _ x _ d hx hd
      refine ⟨v,?_,g2⟩
      rw [tf,eM,cell_of_row w _ _ cs ty _ h7,←g1,h2,h4]
      congr 1
      omega
     exact ⟨v,by simp [Instr.loadAt,Instr.sureAddr,e1],e2⟩
    ·cases e
   ·cases e
  ·cases e
 ·cases e
theorem sM [aT] (hi:Inv κ h w) {u:Value} {x:D} {ys:List (List D)} (r:cL κ w u x) (e:dH h x=some ys) {sz:Nat} (qd:∀y∈ys,y.length=sz) (jN:0<sz):
  (ys=[]∧∃ba cap,u=.slice ba 0 cap∧(ba=none→cap=0))∨∃b o cap,u=.slice (some ⟨b,o,none⟩) ys.length cap∧∀i y j d,ys[i]? =some y→y[j]? =some d→∃v,w.cell? ⟨b,o+i*sz+j,none⟩=some v∧cL κ w v d:=by
 unfold dH at e
 split at e
 ·cases e; cases r; exact .inl ⟨rfl,none,0,rfl,fun _=>rfl⟩
 ·cases e
  cases r with
  | slnil hb=>exact .inl ⟨rfl,_,_,rfl,hb⟩
  | sl f hn fu ug hc hr=>
   rename_i b o jy cap
   refine .inr ⟨b,o,cap,rfl,fun i y j d hy hd=>?_⟩
   have:jy=sz:=by rw [←ug y (List.mem_of_getElem? hy),qd y (List.mem_of_getElem? hy)]
   subst this
   exact ⟨f i j,(hc i y j d hy hd).2,hr i y j d hy hd⟩
 ·split at e
  ·rename_i r0 aY off len hx jy cC xs fz ho
   split at e
   ·rename_i vJ
    obtain ⟨vJ,hle⟩:=vJ
    subst vJ
    cases e
    cases r with
    | row hl hv hn fu ha nZ=>
    rename_i cap p ad
    obtain ⟨p',hp,hr⟩:=hi.obj _ _ ho
    rw [hl] at hp
    cases hp
    obtain ⟨h1,ov,h2,h3,h4,h5,Fl,h6,cs,ty,h7,h8,h9⟩:=hr
    have hlen:((xs.drop off).take len).length=len:=by simp; omega
    rcases ha h1 with ue | ⟨tf,mg⟩
    ·have vb:len=0:=by omega
     subst vb
     exact .inl ⟨by simp,some ad,cap,rfl,fun h=>by cases h⟩
    ·subst tf
     refine .inr ⟨p.blk,p.base+off*p.sz,cap,by rw [hlen],fun i y j d hy hd=>?_⟩
     have th:=List.mem_of_getElem? hy
     rw [List.getElem?_take] at hy
     split at hy
     ·rw [List.getElem?_drop] at hy
      have TJ:p.sz=sz:=by
       rw [h2,←h6 y (List.mem_of_getElem? hy),qd y th]
      obtain ⟨v,g1,g2⟩:=h9 _ y j d hy hd
      refine ⟨v,?_,g2⟩
      rw [cell_of_row w _ _ cs ty _ h7,←g1,TJ,show jy=sz by rw [←h2,TJ],Nat.add_mul]
      congr 1
      omega
     ·cases hy
   ·cases e
  ·cases e
 ·split at e
  ·rename_i id off len hx ds ho
   split at e
   ·rename_i hle
    cases e
    cases r with
    | u7 hl hv hn fu ha=>
    rename_i cap p ad
    obtain ⟨p',hp,hr⟩:=hi.obj _ _ ho
    rw [hl] at hp
    cases hp
    obtain ⟨h1,h2,h3,cs,ty,h4,h5,h6⟩:=hr
    have hlen:(((ds.drop off).take len).map fun d=>[d]).length=len:=by simp; omega
    rcases ha h1 with ue | tf
    ·have vb:len=0:=by omega
     subst vb
     exact .inl ⟨by simp,some ad,cap,rfl,fun h=>by cases h⟩
    ·subst tf
     refine .inr ⟨p.blk,p.base+off,cap,by rw [hlen],fun i y j d hy hd=>?_⟩
     have th:=List.mem_of_getElem? hy
     simp only [List.getElem?_map,Option.map_eq_some_iff] at hy
     obtain ⟨d0,hy,rfl⟩:=hy
     have rX:sz=1:=by rw [←qd _ th]; rfl
     subst rX
     cases j with
     | succ j=>simp at hd
     | zero=>
      simp at hd
      subst hd
      rw [List.getElem?_take] at hy
      split at hy
      ·rw [List.getElem?_drop] at hy
       obtain ⟨v,g1,g2⟩:=h6 _ d0 hy
       refine ⟨v,?_,g2⟩
       rw [cell_of_row w _ _ cs ty _ h4,←g1]
       congr 1
       omega
      ·cases hy
   ·cases e
  ·cases e
 ·cases e
end Go.Proofs.YtpklkpkfgmoghaaGreatDoor.Zz
namespace Go.Proofs.YtpklkpkfgmoghaaGreatDoor.Zz
variable {P:Program} {κ:cT} {h:aa} {w:World} {σ:Fr} {n:Nat} {a:Act} {K E:D→aa→Prop}
theorem cT.ux {id:Nat} {p:Place} (e:κ.loc id=some p):κ.put id p=κ:=by
 cases κ with
 | mk jv loc=>
 simp only [cT.put,cT.mk.injEq,true_and]
 funext i
 split
 ·rename_i h; subst h; exact e.symm
 ·rfl
theorem j7 {α:Type} (cs vs:List α) (off k:Nat) (hl:off+vs.length≤cs.length):
  (cs.take off++vs++cs.drop (off+vs.length))[k]? =if off≤k∧k<off+vs.length then vs[k - off]? else cs[k]? :=by
 have h1:(cs.take off).length=off:=by simp; omega
 by_cases c1:k<off
 ·rw [if_neg (by omega),List.append_assoc,List.getElem?_append_left (by omega),List.getElem?_take,if_pos c1]
 ·by_cases c2:k<off+vs.length
  ·rw [if_pos (by omega),List.getElem?_append_left (by simp; omega),List.getElem?_append_right (by omega),h1]
  ·rw [if_neg (by omega),List.getElem?_append_right (by simp; omega)]
   simp only [List.length_append,h1,List.getElem?_drop]
   congr 1
   omega
theorem vX [aT] (hi:Inv κ h w) {b:Nat} (ho:n7 κ h b) (cs:Array Value):Le κ w κ (w.setRow b cs):=
 ⟨fun x hx=>⟨hx,setRow_other w b x cs fun e=>hi.kL ho (e▸hx)⟩,(Le.refl κ w).loc⟩
theorem ED [aT] (hi:Inv κ h w) {id:Nat} {o o':cJ} {p:Place} (ho:h.f id=some o) (hp:κ.loc id=some p) (hl:o.live=true) (pf:o'.live=true) (cs:Array Value)
  (hr:iN κ (w.setRow p.blk cs) p o') (yS:∀b,Own o' p b→Own o p b:=by first | exact fun b h=>Or.inl (h.Dy (by simp)) | exact fun b h=>h):Inv κ (h.set id o') (w.setRow p.blk cs)∧Ev κ h w κ (h.set id o') (w.setRow p.blk cs):=by
 have:=Inv.yM (w':=w.setRow p.blk cs) (p':=p) hi ho hp hl pf (by simp) (by have:=hi.jV id p hp; simpa using this) (fun b hb=>.inl (yS b hb)) (Nat.le_refl _) (fun _=>rfl) (tN.refl p) rfl rfl rfl
  (fun b _ hb=>setRow_other w p.blk b cs fun e=>hb (e▸Own.self)) (by rw [cT.ux hp]; exact hr)
 rwa [cT.ux hp] at this
theorem zI {vs:List Value} {es:List D} (r:cn κ w vs es) (h:es.all bX=true):∀v∈vs,v.oneCell'=true:=by
 induction r with
 | nil=>intro v hv; cases hv
 | cons a _ ih=>
  simp at h
  intro v hv
  cases hv with
  | head=>exact (w_ a h.1).1
  | tail _ hv=>exact ih (by simpa using h.2) v hv
theorem uK {t:TypeId} {m:Nat} (hs:cw P t=some m) {v:Value} (hv:v.cells.size=m) (h1:∀u∈v.cells.toList,u.oneCell'=true) {b off:Nat} {cs:Array Value} {ty:TypeId}
  (hb:w.heap[b]? =some (.cells cs ty (0,0))) (hle:off+m≤cs.size):
  (storeVar t ⟨b,off,none⟩ v).run P w=.ok () (w.setRow b (cs.toList.take off++v.cells.toList++cs.toList.drop (off+v.cells.toList.length)).toArray):=by
 have:=run_storeCells_at P b off ty v.cells.toList 0 cs w hb (by simp; omega) h1
 simp only [Nat.add_zero] at this
 simp only [storeVar,Sem.run_bind,run_sizeOf hs,Result.andThen]
 rw [if_neg (by simp [hv])]
 simpa using this
theorem pL [aT] (hi:Inv κ h w) {t:TypeId} {m:Nat} (hs:cw P t=some m) {u v:Value} {x d:D} (rx:cL κ w u x) (rv:cL κ w v d) {h':aa} (e:gT h m x d=some h'):
  ∃w',(Instr.storeAt t u v).run P w=.ok () w'∧Inv κ h' w'∧Ev κ h w κ h' w':=by
 unfold gT at e
 split at e
 ·rename_i hc
  obtain ⟨c1,c2⟩:=hc
  have hnu:d≠.undef:=by intro h; subst h; simp [cellsD,bX] at c2
  have rc:=r9 rv hnu
  have one:=zI rc c2
  have lc:=rc.length
  have hvs:v.cells.size=m:=by rw [←c1,←lc]; simp
  split at e
  ·rename_i id aY off
   split at e
   ·rename_i ds ho
    split at e
    ·rename_i vJ
     obtain ⟨vJ,hle⟩:=vJ
     subst vJ
     cases e
     cases rx with
     | ptr hl hv ha=>
     rename_i p ad
     obtain ⟨p',hp,hr⟩:=hi.obj _ _ ho
     rw [hl] at hp
     cases hp
     obtain ⟨h1,h2,h3,cs,ty,h4,h5,h6⟩:=hr
     have tf:=ha h1
     have gm:=uK (P:=P) (w:=w) hs hvs one h4 (off:=p.base+off) (by omega)
     have le:=vX hi ⟨id,_,p,ho,rfl,hl,Own.self⟩ (cs.toList.take (p.base+off)++v.cells.toList++cs.toList.drop (p.base+off+v.cells.toList.length)).toArray
     have Vu:(Instr.storeAt t (.pointer (some ad)) v).run P w=(storeVar t ⟨p.blk,p.base+off,none⟩ v).run P w:=by rw [tf]; rfl
     refine ⟨_,Vu.trans gm,ED hi ho hl rfl rfl _ ⟨h1,h2,h3,_,ty,setRow_heap w p.blk cs _ ty (0,0) h4,?_,fun i d' yR=>?_⟩⟩
     ·simp [pG]; omega
     ·rw [si] at yR
      have ig:p.base+off+v.cells.toList.length≤cs.toList.length:=by simp; omega
      have ahJ:i<ds.length:=by
       split at yR
       ·omega
       ·exact (List.getElem?_eq_some_iff.1 yR).1
      simp only [List.getElem?_toArray]
      rw [j7 _ _ _ _ ig]
      by_cases hc:off≤i∧i<off+(cellsD d).length∧i<ds.length
      ·rw [if_pos hc] at yR
       obtain ⟨v',g1,g2⟩:=rc.get _ _ yR
       rw [if_pos (by omega)]
       exact ⟨v',by rw [h2,Nat.zero_add]; exact g1,g2.mono le⟩
      ·rw [if_neg hc] at yR
       obtain ⟨v',g1,g2⟩:=h6 _ _ yR
       rw [if_neg (by omega)]
       exact ⟨v',by simpa using g1,g2.mono le⟩
    ·cases e
   ·cases e
  ·rename_i r aY i f
   split at e
   ·rename_i sz cC xs ho
    split at e
    ·rename_i vJ
     subst vJ
     split at e
     ·rename_i y hy
      split at e
      ·rename_i hle
       cases e
       cases rx with
       | fT hl hv ha=>
       rename_i p ad
       obtain ⟨p',hp,hr⟩:=hi.obj _ _ ho
       rw [hl] at hp
       cases hp
       obtain ⟨h1,ov,h2,h3,h4,h5,Fl,h6,cs,ty,h7,h8,h9⟩:=hr
       have tf:=ha h1
       have qd:y.length=sz:=h6 y (List.mem_of_getElem? hy)
       have mI:i<xs.length:=(List.getElem?_eq_some_iff.1 hy).1
       have uf:p.base+i*sz+f+m≤cs.size:=by
        have:i*sz+sz≤p.cap*sz:=by
         calc i*sz+sz=(i+1)*sz:=by rw [Nat.add_mul,Nat.one_mul]
          _≤p.cap*sz:=Nat.mul_le_mul_right _ (by omega)
        omega
       have gm:=uK (P:=P) (w:=w) hs hvs one h7 (off:=p.base+i*sz+f) uf
       have le:=vX hi ⟨r,_,p,ho,rfl,hl,Own.self⟩ (cs.toList.take (p.base+i*sz+f)++v.cells.toList++cs.toList.drop (p.base+i*sz+f+v.cells.toList.length)).toArray
       have Vu:(Instr.storeAt t (.pointer (some ad)) v).run P w=(storeVar t ⟨p.blk,p.base+i*sz+f,none⟩ v).run P w:=by rw [tf,h2]; rfl
       refine ⟨_,Vu.trans gm,ED hi ho hl rfl rfl _ ⟨h1,ov,h2,h3,h4,by simpa using h5,Fl,?_,_,ty,setRow_heap w p.blk cs _ ty (0,0) h7,?_,fun i' x' j d' ZI yr=>?_⟩⟩
       ·intro z hz
        rcases List.mem_or_eq_of_mem_set hz with hz | hz
        ·exact h6 z hz
        ·rw [hz,pG]; exact qd
       ·simp; omega
       ·have ig:p.base+i*sz+f+v.cells.toList.length≤cs.toList.length:=by simp; omega
        simp only [List.getElem?_toArray]
        rw [j7 _ _ _ _ ig]
        rw [List.getElem?_set] at ZI
        split at ZI
        ·rename_i he
         subst he
         cases ZI
         rw [si] at yr
         have hj:j<y.length:=by
          split at yr
          ·omega
          ·exact (List.getElem?_eq_some_iff.1 yr).1
         by_cases hc:f≤j∧j<f+(cellsD d).length∧j<y.length
         ·rw [if_pos hc] at yr
          obtain ⟨v',g1,g2⟩:=rc.get _ _ yr
          rw [if_pos (by omega)]
          refine ⟨v',?_,g2.mono le⟩
          rw [show p.base+i*sz+j - (p.base+i*sz+f)=j - f by omega]
          exact g1
         ·rw [if_neg hc] at yr
          obtain ⟨v',g1,g2⟩:=h9 _ _ _ _ hy yr
          rw [if_neg (by omega)]
          exact ⟨v',by simpa using g1,g2.mono le⟩
        ·rename_i he
         obtain ⟨v',g1,g2⟩:=h9 _ _ _ _ ZI yr
         have hj:j<sz:=by
          rw [←h6 x' (List.mem_of_getElem? ZI)]
          exact (List.getElem?_eq_some_iff.1 yr).1
         rw [if_neg ?_]
         ·exact ⟨v',by simpa using g1,g2.mono le⟩
         ·rintro ⟨q1,q2⟩
          rcases Nat.lt_or_ge i i' with ahJ | hge
          ·have:i*sz+sz≤i'*sz:=by
            calc i*sz+sz=(i+1)*sz:=by rw [Nat.add_mul,Nat.one_mul]
             _≤i'*sz:=Nat.mul_le_mul_right _ ahJ
           omega
          ·have:i'*sz+sz≤i*sz:=by
            calc i'*sz+sz=(i'+1)*sz:=by rw [Nat.add_mul,Nat.one_mul]
             _≤i*sz:=Nat.mul_le_mul_right _ (by omega)
           omega
      ·cases e
     ·cases e
    ·cases e
   ·cases e
  ·cases e
 ·cases e
theorem uj [aT] (hi:Inv κ h w) (t:TypeId) {v:Value} {ds:List D} (r:cn κ w v.cells.toList ds) (hk:∀id,h.f id=none→K (.ptr id 1 0) (h.set id (.cells ds))):
  ∃κ' h' ad d,(newVar t v).run P w=.ok ad (w.alloc (.cells v.cells t))∧K d h'∧cL κ' (w.alloc (.cells v.cells t)) (.pointer (some ad)) d∧Inv κ' h' (w.alloc (.cells v.cells t))∧Ev κ h w κ' h' (w.alloc (.cells v.cells t)):=by
 obtain ⟨id,hid,hf⟩:=hi.vO
 let p:Place:={ blk:=w.heap.size,base:=0,aY:=1,cap:=0,sz:=0,rc:=none }
 have le:=Le.alloc (κ:=κ) hi (.cells v.cells t) hid p
 obtain ⟨i1,e1⟩:=hi.alloc hid hf (.cells v.cells t) (.cells ds) p rfl rfl rfl ⟨rfl,rfl,fun hx=>by have:=hi.gM _ hx; simp [p] at this,v.cells,t,dZ w _,by have:=r.length; simpa using this,fun i d hd=>by
  obtain ⟨u,g1,g2⟩:=r.get i d hd
  exact ⟨u,by simpa using g1,g2.mono le⟩⟩
 exact ⟨_,_,⟨w.heap.size,0,none⟩,_,rfl,hk id hf,.ptr (p:=p) (by simp [cT.put]) (Nat.le_refl 1) (fun _=>rfl),i1,e1⟩
end Go.Proofs.YtpklkpkfgmoghaaGreatDoor.Zz
namespace Go.Proofs.YtpklkpkfgmoghaaGreatDoor.Zz
variable {P:Program} {κ:cT} {h:aa} {w:World} {σ:Fr} {n:Nat} {a:Act} {K E:D→aa→Prop}
theorem eZ {sz:Nat}:∀{xs:List (List D)},(∀x∈xs,x.length=sz)→xs.flatten.length=xs.length*sz
 | [],_=>by simp
 | x::xs,h=>by
  have h1:=h x (by simp)
  have h2:=eZ (xs:=xs) fun y hy=>h y (by simp [hy])
  simp only [List.flatten_cons,List.length_append,h1,h2,List.length_cons]
  rw [Nat.add_mul,Nat.one_mul,Nat.add_comm]
theorem fZ {sz:Nat}:∀{xs:List (List D)},(∀x∈xs,x.length=sz)→∀{i j:Nat} {x:List D} {d:D},xs[i]? =some x→x[j]? =some d→xs.flatten[i*sz+j]? =some d
 | [],_,i,j,x,d,h1,_=>by simp at h1
 | y::xs,h,i,j,x,d,h1,h2=>by
  have hy:=h y (by simp)
  cases i with
  | zero=>
   simp at h1
   subst h1
   have hj:j<y.length:=(List.getElem?_eq_some_iff.1 h2).1
   rw [List.flatten_cons,Nat.zero_mul,Nat.zero_add,List.getElem?_append_left hj]
   exact h2
  | succ i=>
   have:=fZ (xs:=xs) (fun z hz=>h z (by simp [hz])) (i:=i) (by simpa using h1) h2
   rw [List.flatten_cons,List.getElem?_append_right (by rw [hy,Nat.add_mul]; omega),hy,←this]
   congr 1
   rw [Nat.add_mul]
   omega
theorem tB (as bs:List D) (off:Nat) (ds:List D):setAt (as++bs) (as.length+off) ds=as++setAt bs off ds:=by
 induction ds generalizing bs off with
 | nil=>rfl
 | cons d ds ih=>
  rw [setAt,setAt]
  have:(as++bs).set (as.length+off) d=as++bs.set off d:=by
   rw [List.set_append_right _ _ (by omega)]
   congr 2
   omega
  rw [this,Nat.add_assoc,ih]
theorem uH (as bs ds:List D) (h:as.length=ds.length):setAt (as++bs) 0 ds=ds++bs:=by
 apply List.ext_getElem?
 intro i
 rw [si]
 by_cases c:i<ds.length
 ·rw [if_pos (by simp; omega),List.getElem?_append_left c]
  simp
 ·rw [if_neg (by omega),List.getElem?_append_right (by omega),List.getElem?_append_right (by omega),h]
theorem wx {sz:Nat}:∀{xs:List (List D)},(∀x∈xs,x.length=sz)→∀{i:Nat} {y:List D},i<xs.length→y.length=sz→(xs.set i y).flatten=setAt xs.flatten (i*sz) y
 | [],_,i,y,h1,_=>by simp at h1
 | x::xs,h,i,y,h1,h2=>by
  have hx:=h x (by simp)
  cases i with
  | zero=>
   simp only [List.set_cons_zero,List.flatten_cons,Nat.zero_mul]
   rw [uH _ _ _ (by omega)]
  | succ i=>
   have:=wx (xs:=xs) (fun z hz=>h z (by simp [hz])) (i:=i) (y:=y) (by simpa using h1) h2
   simp only [List.set_cons_succ,List.flatten_cons,this]
   rw [show (i+1)*sz=x.length+i*sz by rw [hx,Nat.add_mul,Nat.one_mul,Nat.add_comm],tB]
theorem qy {sz:Nat}:∀(ps:List (Nat×D)) (xs ys:List (List D)),(∀x∈xs,x.length=sz)→fD sz xs ps=some ys→
  jP xs.flatten (ps.map fun p=>(p.1*sz,sz,p.2))=some ys.flatten∧(∀y∈ys,y.length=sz)∧ys.length=xs.length
 | [],xs,ys,h,e=>by simp [fD] at e; subst e; exact ⟨by simp [jP],h,rfl⟩
 | (i,d)::ps,xs,ys,h,e=>by
  simp only [fD] at e
  split at e
  ·rename_i hc
   obtain ⟨c1,c2,c3⟩:=hc
   obtain ⟨h1,h2,h3⟩:=qy ps _ ys (fun x hx=>by
    rcases List.mem_or_eq_of_mem_set hx with hx | hx
    ·exact h x hx
    ·rw [hx]; exact c1) e
   refine ⟨?_,h2,by simpa using h3⟩
   simp only [List.map_cons,jP]
   have hle:i*sz+sz≤xs.flatten.length:=by
    rw [eZ h]
    calc i*sz+sz=(i+1)*sz:=by rw [Nat.add_mul,Nat.one_mul]
     _≤xs.length*sz:=Nat.mul_le_mul_right _ c2
   rw [if_pos ⟨c1,hle,c3⟩,←wx h c2 c1]
   exact h1
  ·cases e
theorem uC (zs:List D) (m:Nat):∀k,k<m*zs.length→(List.replicate m zs).flatten[k]? =zs[k % zs.length]? :=by
 induction m with
 | zero=>intro k hk; omega
 | succ m ih=>
  intro k hk
  rw [List.replicate_succ,List.flatten_cons]
  by_cases c:k<zs.length
  ·rw [List.getElem?_append_left c,Nat.mod_eq_of_lt c]
  ·rw [List.getElem?_append_right (by omega),ih _ (by rw [Nat.add_mul] at hk; omega)]
   have:k % zs.length=(k - zs.length) % zs.length:=by
    rw [Nat.mod_eq_sub_mod (by omega)]
   rw [this]
theorem TG {zs:List D} {zv:Array Value} (hz:cn κ w zv.toList zs) (m:Nat):cn κ w (((Array.range (m*zs.length)).map (zv[· % zv.size]!)).toList) (List.replicate m zs).flatten:=by
 have hl:=hz.length
 simp at hl
 refine cn.qP ?_ fun i d hd=>?_
 ·rw [eZ (sz:=zs.length) (by intro x hx; rw [List.eq_of_mem_replicate hx])]
  simp
 ·have hi:i<m*zs.length:=by
   have:=(List.getElem?_eq_some_iff.1 hd).1
   rw [eZ (sz:=zs.length) (by intro x hx; rw [List.eq_of_mem_replicate hx])] at this
   simpa using this
  rw [uC zs m i hi] at hd
  obtain ⟨v,e,r⟩:=hz.get _ _ hd
  refine ⟨v,?_,r⟩
  have e':zv[i % zv.size]? =some v:=by rw [hl]; simpa using e
  have ig:=(Array.getElem?_eq_some_iff.1 e').1
  have e3:zv[i % zv.size]! =v:=by
   rw [getElem!_pos zv (i % zv.size) ig]
   exact (Array.getElem?_eq_some_iff.1 e').2
  simp [hi,e3]
theorem tp [aT] (hi:Inv κ h w) (t:TypeId) {cs:Array Value} {xs:List (List D)} {sz cap:Nat} (qd:∀x∈xs,x.length=sz) (fu:xs.length≤cap) (NF:cap≤9223372036854775807) (yq:cap*sz≤cs.size)
  (hr:∀(i:Nat) (x:List D) (j:Nat) (d:D),xs[i]? =some x→x[j]? =some d→∃v,cs[i*sz+j]? =some v∧cL κ w v d)
  (hk:∀id,h.f id=none→K (.row id (xs.length+2) 0 xs.length) (h.set id (.row sz (xs.length+2) xs false))):
  ∃κ' h' d,K d h'∧cL κ' (w.alloc (.cells cs t)) (.slice (some ⟨w.heap.size,0,none⟩) xs.length cap) d∧Inv κ' h' (w.alloc (.cells cs t))∧Ev κ h w κ' h' (w.alloc (.cells cs t)):=by
 obtain ⟨id,hid,hf⟩:=hi.vO
 let p:Place:={ blk:=w.heap.size,base:=0,aY:=xs.length+2,cap,sz,rc:=none }
 have le:=Le.alloc (κ:=κ) hi (.cells cs t) hid p
 obtain ⟨i1,e1⟩:=hi.alloc hid hf (.cells cs t) (.row sz (xs.length+2) xs false) p rfl rfl rfl ⟨rfl,by omega,rfl,fun h=>(by cases h),fun _ hx=>by have:=hi.gM _ hx; simp [p] at this,fu,NF,qd,cs,t,dZ w _,by simpa [p] using yq,fun i x j d hx hj=>by
  obtain ⟨v,g1,g2⟩:=hr i x j d hx hj
  exact ⟨v,by simpa [p] using g1,g2.mono le⟩⟩
 exact ⟨_,_,_,hk id hf,.row (p:=p) (by simp [cT.put]) (Nat.le_refl _) (by omega) fu (fun _=>.inr ⟨by simp [p],by simp [p]⟩) (by simp [p]),i1,e1⟩
theorem AH [aT] (hi:Inv κ h w) (t:TypeId) {cs:Array Value} {fz:Nat×Nat} {xs:List (List D)} {sz cap:Nat} (qd:∀x∈xs,x.length=sz) (fu:xs.length≤cap) (NF:xs.length≤9223372036854775807)
  (hr:∀(i:Nat) (x:List D) (j:Nat) (d:D),xs[i]? =some x→x[j]? =some d→∃v,cs[i*sz+j]? =some v∧cL κ w v d):
  ∃κ',cL κ' (w.alloc (.cells cs t fz)) (.slice (some ⟨w.heap.size,0,none⟩) xs.length cap) (.sl xs)∧Inv κ' h (w.alloc (.cells cs t fz))∧Ev κ h w κ' h (w.alloc (.cells cs t fz)):=by
 obtain ⟨i1,e1⟩:=hi.RI (.cells cs t fz)
 have le:=e1.le hi
 refine ⟨_,.sl (sz:=sz) (fun i j=>cs.getD (i*sz+j) undef) NF fu qd (fun i x j d hx hj=>⟨Or.inr rfl,?_⟩) (fun i x j d hx hj=>?_),i1,e1⟩
 ·obtain ⟨v,g1,g2⟩:=hr i x j d hx hj
  rw [cell_of_row _ _ _ cs t fz (dZ w _),Nat.zero_add,g1]
  simp [Array.getD_eq_getD_getElem?,g1]
 ·obtain ⟨v,g1,g2⟩:=hr i x j d hx hj
  have:cs.getD (i*sz+j) undef=v:=by simp [Array.getD_eq_getD_getElem?,g1]
  rw [this]
  exact g2.mono le
end Go.Proofs.YtpklkpkfgmoghaaGreatDoor.Zz
namespace Go.Proofs.YtpklkpkfgmoghaaGreatDoor.Zz
variable {P:Program} {κ:cT} {h:aa} {w:World} {σ:Fr} {n:Nat} {a:Act} {K E:D→aa→Prop}
theorem iv {t e:TypeId} (h:qB P t=some e):P.underlying t=some (.slice e):=by
 unfold qB at h
 split at h<;>cases h
 assumption
theorem rp {t:TypeId} {k:Nat} (e:cw P t=some k):∃i,P.info? t=some i∧i.size=k:=by
 unfold cw at e
 cases e1:P.info? t with
 | none=>simp [e1] at e
 | some i=>simp [e1] at e; exact ⟨i,rfl,e⟩
theorem vu {t e:TypeId} {sz m:Nat} {z:D} (ht:P.underlying t=some (.slice e)) (hs:cw P e=some sz) (hz:ic P e=some z) (hb:m*sz≤16777216) (YH:(cellsD z).length=sz) (jN:0<sz)
  {ps:List (Nat×Value)} {qs:List (Nat×D)} (hl:ps.length=qs.length) (hq:∀(i:Nat) (j:Nat) (v:Value),ps[i]? =some (j,v)→∃d,qs[i]? =some (j,d)∧cL κ w v d)
  {xs:List (List D)} (hx:fD sz (rowsOf sz (cellsD z) m) qs=some xs):
  ∃cs,(Instr.buildSlice t m ps.toArray).run P w=.ok (.slice (some ⟨w.heap.size,0,none⟩) m m) (w.alloc (.cells cs e))∧cn κ w cs.toList xs.flatten∧(∀x∈xs,x.length=sz)∧xs.length=m:=by
 obtain ⟨zv,z1,z2,_⟩:=kF hz κ w
 have sB:∀x∈rowsOf sz (cellsD z) m,x.length=sz:=by
  intro x hx
  rw [List.eq_of_mem_replicate hx,YH]
 obtain ⟨b1,b2,b3⟩:=qy qs _ xs sB hx
 have hz0:=TG z2 m
 rw [YH] at hz0
 have b1':jP (List.replicate m (cellsD z)).flatten (qs.map fun p=>(p.1*sz,sz,p.2))=some xs.flatten:=b1
 obtain ⟨cs,f1,f2⟩:=s_ (place:=fun i=>some (i*sz,sz)) (cells:=(Array.range (m*sz)).map (zv.cells[· % zv.cells.size]!)) hz0 ps (qs.map fun p=>(p.1*sz,sz,p.2)) (by simpa using hl) (fun i j v hv=>by
  obtain ⟨d,g1,g2⟩:=hq i j v hv
  exact ⟨_,sz,d,by simp [g1],rfl,g2⟩) _ b1'
 refine ⟨cs,?_,f2,b2,by simpa [rowsOf] using b3⟩
 have h1:¬(m*sz>2 ^ 24):=by omega
 simp only [Instr.buildSlice,Sem.run_bind,run_underlying ht,Result.andThen,run_sizeOf hs]
 rw [if_neg h1]
 by_cases h0:m*sz=0
 ·have hm:m=0:=by
   rcases Nat.mul_eq_zero.1 h0 with h | h
   ·exact h
   ·omega
  subst hm
  simp only [Nat.zero_mul,if_true,Sem.run_pure]
  have KK:(Array.range 0).map (fun i=>(#[]:Array Value)[i % (#[]:Array Value).size]!)=(Array.range (0*sz)).map (zv.cells[· % zv.cells.size]!):=by simp
  rw [←KK] at f1
  simp only [Sem.run_bind,Sem.run_pure,Result.andThen,f1,newRow,run_newObj]
  rfl
 ·rw [if_neg h0]
  simp only [Sem.run_bind,z1,Result.andThen,Sem.run_pure,f1,newRow,run_newObj]
  rfl
theorem Hg {cs:Array Value} {xs:List (List D)} {sz:Nat} (h:cn κ w cs.toList xs.flatten) (qd:∀x∈xs,x.length=sz):
  ∀(i:Nat) (x:List D) (j:Nat) (d:D),xs[i]? =some x→x[j]? =some d→∃v,cs[i*sz+j]? =some v∧cL κ w v d:=fun i x j d h1 h2=>MX h _ d (fZ qd h1 h2)
theorem yv [aT] (hi:Inv κ h w) {t e:TypeId} {lu:Nat} {z:D} (ht:P.underlying t=some (.slice e)) (hs:cw P e=some 1) (hb:ji P e=some lu) (hz:ic P e=some z) (hzo:bX z=true) (jN:0<lu)
  {k1 k2:IntKind} {l:Int} (h0:0≤l) (hbd:l*lu≤140737488355328)
  (hk:∀id,h.f id=none→K (.row id (l.toNat+2) 0 l.toNat) (h.set id (.row 1 (l.toNat+2) (rowsOf 1 [z] l.toNat) false))):
  fH P κ h w K E ((do let x ←Instr.makeSlice t (.int k1 l) (.int k2 l); pure (Next.value x):Sem Next).run P w):=by
 obtain ⟨zv,z1,z2,i,hi1,hi2⟩:=sW hz κ w
 obtain ⟨o1,o2⟩:=w_ z2 hzo
 obtain ⟨m,rfl⟩:=Int.eq_ofNat_of_zero_le h0
 simp only [Int.toNat_natCast] at hk
 have aht:lu*m≤281474976710656:=by
  have:(m:Int)*(lu:Int)=((lu*m:Nat):Int):=by rw [Nat.mul_comm]; simp
  omega
 have hm:m≤281474976710656:=Nat.le_trans (Nat.le_mul_of_pos_left _ jN) aht
 have ahB:(P.info? e).map (fun i=>(i.zero,i.size,i.bytes))=some (some zv,1,lu):=by
  obtain ⟨i',e1,e2⟩:=rp hs
  rw [hi1] at e1
  cases e1
  have hby:i.bytes=lu:=by
   unfold ji at hb
   rw [hi1] at hb
   simpa using hb
  simp [hi1,hi2,e2,hby]
 have gm:=run_make_row' t e zv lu ht ahB o2 k1 k2 m aht (by omega) w
 simp only [Sem.run_bind,gm,Result.andThen,Sem.run_pure]
 obtain ⟨κ',h',d,a1,a2,a3,a4⟩:=tp (K:=K) hi e (cs:=madeCells #[zv] m) (xs:=rowsOf 1 [z] m) (sz:=1) (cap:=m) (fun x hx=>by rw [List.eq_of_mem_replicate hx]; rfl) (by simp [rowsOf]) (by omega) (by simp [size_madeCells])
  (fun i x j d hx hj=>by
   have ZI:=List.eq_of_mem_replicate (List.mem_of_getElem? hx)
   subst ZI
   have him:i<m:=by
    have:=(List.getElem?_eq_some_iff.1 hx).1
    simpa [rowsOf] using this
   cases j with
   | succ j=>simp at hj
   | zero=>
    simp at hj
    subst hj
    exact ⟨zv,by simp [madeCells,him,Nat.mod_one],z2⟩)
  (by simpa [rowsOf] using hk)
 refine ⟨κ',h',d,a1,?_,a3,a4⟩
 simpa [rowsOf] using a2
end Go.Proofs.YtpklkpkfgmoghaaGreatDoor.Zz
namespace Go.Proofs.YtpklkpkfgmoghaaGreatDoor.Zz
variable {P:Program} {κ:cT} {h:aa} {w:World} {σ:Fr} {n:Nat} {a:Act} {K E:D→aa→Prop}
theorem lG {t tx ty e:TypeId} {i:TypeInfo} (ht:P.underlying t=some (.slice e)) (hi:P.info? e=some i) {g off Ms afs:Nat} {cur:Array Value} {el:TypeId} (hg:w.heap[g]? =some (.cells cur el (0,0)))
  {x:Value} {m:Nat} {news:List Value} (hs:Src P i.size tx x m news w) (uf:Ms+m≤afs) (yq:off+Ms*i.size+news.length≤cur.size):
  (Builtin.append_ #[t,tx] ty #[.slice (some ⟨g,off,none⟩) Ms afs,x]).run P w=
   .ok (.slice (some ⟨g,off,none⟩) (Ms+m) afs) (w.setRow g (cur.toList.take (off+Ms*i.size)++news++cur.toList.drop (off+Ms*i.size+news.length)).toArray):=by
 have qc:=run_storeCells_at P g (off+Ms*i.size) el news 0 cur w hg (by simpa using yq) hs.one
 simp only [Nat.add_zero] at qc
 rcases hs.kind with ⟨e',hk⟩ | hk<;>simp [Builtin.append_,run_underlying ht,run_underlying hk,sizeOf,typeInfo,hi,hs.len,uf,hs.cells,Addr.add_lit,qc]
theorem s7 {b o sz:Nat} {ys:List (List D)} (hy:∀y∈ys,y.length=sz) (jN:0<sz)
  (hc:∀(i:Nat) (y:List D) (j:Nat) (d:D),ys[i]? =some y→y[j]? =some d→∃v,w.cell? ⟨b,o+i*sz+j,none⟩=some v∧cL κ w v d):
  ∃news:List Value,cn κ w news ys.flatten∧news.length=ys.length*sz∧∀j u,news[j]? =some u→w.cell? ⟨b,o+j,none⟩=some u:=by
 have hex:∀k,∃v,∀i y j d,k=i*sz+j→ys[i]? =some y→y[j]? =some d→w.cell? ⟨b,o+k,none⟩=some v∧cL κ w v d:=fun k=>by
  by_cases hk':∃i y j d,k=i*sz+j∧ys[i]? =some y∧y[j]? =some d
  ·obtain ⟨i,y,j,d,rfl,h1,h2⟩:=hk'
   obtain ⟨v,g1,g2⟩:=hc i y j d h1 h2
   refine ⟨v,fun i' y' j' d' he ov h2'=>?_⟩
   have hj:j<sz:=by rw [←hy y (List.mem_of_getElem? h1)]; exact (List.getElem?_eq_some_iff.1 h2).1
   have yr:j'<sz:=by rw [←hy y' (List.mem_of_getElem? ov)]; exact (List.getElem?_eq_some_iff.1 h2').1
   have hdiv:i=i':=by
    have a1:(i*sz+j) / sz=i:=by rw [Nat.mul_comm,Nat.mul_add_div jN,Nat.div_eq_of_lt hj,Nat.add_zero]
    have a2:(i'*sz+j') / sz=i':=by rw [Nat.mul_comm,Nat.mul_add_div jN,Nat.div_eq_of_lt yr,Nat.add_zero]
    rw [←a1,←a2,he]
   subst hdiv
   have hjj:j=j':=by omega
   subst hjj
   rw [h1] at ov
   cases ov
   rw [h2] at h2'
   cases h2'
   exact ⟨by rw [←Nat.add_assoc]; exact g1,g2⟩
  ·exact ⟨undef,fun i y j d he h1 h2=>absurd ⟨i,y,j,d,he,h1,h2⟩ hk'⟩
 obtain ⟨f,hf⟩:=Classical.axiomOfChoice hex
 have hfl:ys.flatten.length=ys.length*sz:=eZ hy
 have mh:∀k (d:D),ys.flatten[k]? =some d→w.cell? ⟨b,o+k,none⟩=some (f k)∧cL κ w (f k) d:=fun k d hd=>by
  have hk':k<ys.length*sz:=by rw [←hfl]; exact (List.getElem?_eq_some_iff.1 hd).1
  have mI:k / sz<ys.length:=by rw [Nat.div_lt_iff_lt_mul jN]; exact hk'
  have hlen:=hy _ (List.getElem_mem mI)
  have yr:k % sz<ys[k / sz].length:=by rw [hlen]; exact Nat.mod_lt _ jN
  have hdm:k=k / sz*sz+k % sz:=by rw [Nat.mul_comm]; exact (Nat.div_add_mod k sz).symm
  have h2:=fZ hy (i:=k / sz) (j:=k % sz) (x:=ys[k / sz]) (d:=ys[k / sz][k % sz]) (by simp [mI]) (by simp [yr])
  rw [←hdm,hd] at h2
  cases h2
  obtain ⟨g1,g2⟩:=hf k (k / sz) ys[k / sz] (k % sz) _ hdm (List.getElem?_eq_getElem mI) (List.getElem?_eq_getElem yr)
  exact ⟨g1,g2⟩
 have sB:cn κ w ((List.range (ys.length*sz)).map f) ys.flatten:=cn.qP (by simp [hfl]) fun k d hd=>by
  have hk':k<ys.length*sz:=by rw [←hfl]; exact (List.getElem?_eq_some_iff.1 hd).1
  exact ⟨f k,by simp [hk'],(mh k d hd).2⟩
 refine ⟨(List.range (ys.length*sz)).map f,sB,by simp,fun j u hu=>?_⟩
 have hj:j<ys.length*sz:=by
  have:=(List.getElem?_eq_some_iff.1 hu).1
  simpa using this
 have hd:ys.flatten[j]? =some (ys.flatten[j]'(by rw [hfl]; exact hj)):=by simp [hfl,hj]
 rw [(mh j _ hd).1]
 simpa [hj] using hu
theorem FQ [aT] (hi:Inv κ h w) {tx:TypeId} {sz:Nat} (jN:0<sz) {u:Value} {x:D} (r:cL κ w u x) {ys:List (List D)} (e:(match x with | .str b=>some (fX b) | x=>dH h x)=some ys)
  (hk:(∃e',P.underlying tx=some (.slice e')∧(∀b,x≠.str b))∨(P.underlying tx=some .string∧sz=1∧∃b,x=.str b)) (hy:∀y∈ys,y.length=sz∧y.all bX=true):
  ∃news,Src P sz tx u ys.length news w∧cn κ w news ys.flatten:=by
 rcases hk with ⟨e',hk,hns⟩ | ⟨hk,rfl,b,rfl⟩
 ·have e1:dH h x=some ys:=by
   cases x with
   | str b=>exact absurd rfl (hns b)
   | _=>exact e
  rcases sM hi r e1 (fun y hh=>(hy y hh).1) jN with ⟨lx,ba,cap,rfl,hba⟩ | ⟨b,o,cap,rfl,hc⟩
  ·subst lx
   refine ⟨[],?_,.nil⟩
   cases ba with
   | none=>
    have:=hba rfl
    subst this
    exact Src.ofNil w hk 0
   | some ad=>exact Src.ofSlice w hk ad 0 cap [] (by simp) (by simp) (by simp)
  ·obtain ⟨news,n1,n2,n3⟩:=s7 (fun y hh=>(hy y hh).1) jN hc
   refine ⟨news,Src.ofSlice w hk ⟨b,o,none⟩ ys.length cap news n2 (fun j u hu=>by rw [eM]; exact n3 j u hu) ?_,n1⟩
   refine zI n1 (List.all_eq_true.2 fun d hd=>?_)
   obtain ⟨y,hy1,Vw⟩:=List.mem_flatten.1 hd
   exact List.all_eq_true.1 (hy y hy1).2 d Vw
 ·cases e
  cases r with
  | str _ hs=>
  have hlen:(⟨b.toArray⟩:ByteArray).size=(fX b).length:=by simp [fX,size_mk]
  refine ⟨byteCells ⟨b.toArray⟩,hlen▸Src.ofString w hk _,?_⟩
  have:(fX b).flatten=b.map fun c=>.int .u8 (c.toNat:Int):=by
   clear hlen hs hy
   induction b with
   | nil=>rfl
   | cons c b ih=>simp [fX] at ih ⊢; exact ih
  rw [this]
  simp only [byteCells]
  clear hlen hs hy this
  induction b with
  | nil=>exact .nil
  | cons c b ih=>exact .cons (.int _ _) ih
theorem Ev.drew {κ:cT} {h:aa} {w:World}:Ev κ h w κ h w.drew:=Ev.of_heap rfl rfl rfl rfl
theorem tP [aT] (hi:Inv κ h w) {t tx ty e:TypeId} {sz lu:Nat} {z:D} (ht:P.underlying t=some (.slice e)) (hs:cw P e=some sz) (hb:ji P e=some lu) (hz:ic P e=some z) (YH:(cellsD z).length=sz) (jN:0<sz)
  {s u:Value} {ds x:D} (rs:cL κ w s ds) {ys:List (List D)} (hy:∀y∈ys,y.length=sz∧y.all bX=true) (HI:0<lu) {news:List Value} (nP:Src P sz tx u ys.length news w) (Vr:cn κ w news ys.flatten)
  (hk:match ds with
    | .aZ=>(ys=[]→K .aZ h)∧ys.length*lu≤140737488355328∧(ys≠[]→∀id,h.f id=none→K (.row id (ys.length+2) 0 ys.length) (h.set id (.row sz (ys.length+2) ys false)))
    | .row r aY off len=>match h.f r with
     | some (.row jy cC xs false)=>aY=cC∧jy=sz∧off=0∧len=xs.length∧(xs.length+ys.length)*lu≤140737488355328∧
       K (.row r (aY+ys.length) 0 (len+ys.length)) (h.set r (.row sz (aY+ys.length) (xs++ys) false))
     | _=>False
    | _=>False):
  ∃v w' κ' h' d,(Builtin.append_ #[t,tx] ty #[s,u]).run P w=.ok v w'∧K d h'∧cL κ' w' v d∧Inv κ' h' w'∧Ev κ h w κ' h' w':=by
 obtain ⟨i,i1,i2⟩:=rp hs
 obtain ⟨zv,z1,z2,i',i3,i4⟩:=kF hz κ w
 rw [i1] at i3
 cases i3
 have hby:i.bytes=lu:=by
  unfold ji at hb
  rw [i1] at hb
  simpa using hb
 subst i2
 have hzs:zv.cells.size=i.size:=by
  have:=z2.length
  simp at this
  omega
 have wD:news.length=ys.length*i.size:=nP.newsLen
 cases ds with
 | aZ=>
  cases rs
  obtain ⟨k1,k2,k3⟩:=hk
  by_cases lx:ys=[]
  ·subst lx
   simp only [List.length_nil] at nP
   refine ⟨.slice none 0 0,w,κ,h,.aZ,?_,k1 rfl,.aZ,hi,Ev.refl κ h w⟩
   have Vj:(Builtin.firstCells i.size 0 u).run P w=.ok news.toArray w:=nP.cells
   rcases nP.kind with ⟨e',hk⟩ | hk<;>simp [Builtin.append_,run_underlying ht,run_underlying hk,sizeOf,typeInfo,i1,nP.len,Vj]
  ·have hp:0<ys.length:=List.length_pos_iff.2 lx
   have hle:ys.length≤140737488355328:=Nat.le_trans (Nat.le_mul_of_pos_right _ HI) k2
   have gm:=run_append_grow_src (P:=P) w t tx ty e i zv ht i1 i4 none 0 0 [] (by rw [run_firstCells_none]) u ys.length news nP (by omega) (by omega) (by
    rw [hby,Nat.zero_add]
    exact growslice_fits (by omega) k2)
   simp only [Nat.zero_add,List.nil_append] at gm
   have fu:=grownCap_ge w ys.length 0 e
   have HJ:=grownCap_le_maxLen w ys.length 0 e (by simp only [maxLen]; omega)
   simp only [maxLen] at HJ
   have mI:Inv κ h w.drew:=hi.of_heap rfl
   have Vs:=Vr.mono (Le.of_heap (κ:=κ) (w:=w) (w':=w.drew) rfl)
   obtain ⟨κ',h',d,a1,a2,a3,a4⟩:=tp (K:=K) mI e (cs:=news.toArray++Builtin.zeroCells zv.cells (grownCap w ys.length 0 e - ys.length)) (xs:=ys) (sz:=i.size) (cap:=grownCap w ys.length 0 e)
    (fun y hh=>(hy y hh).1) fu HJ (by
     simp only [Array.size_append,List.size_toArray,size_zeroCells,wD,hzs]
     rw [←Nat.add_mul,Nat.add_sub_cancel' fu]; exact Nat.le_refl _)
    (fun i1 x j d hx hj=>by
     obtain ⟨v,g1,g2⟩:=Vs.get _ d (fZ (fun y hh=>(hy y hh).1) hx hj)
     refine ⟨v,?_,g2⟩
     have ig:=(List.getElem?_eq_some_iff.1 g1).1
     rw [Array.getElem?_append_left (by simpa using ig)]
     simpa using g1)
    (k3 lx)
   exact ⟨_,_,κ',h',d,gm,a1,a2,a3,Ev.drew.trans a4⟩
 | row r aY off len=>
  simp only at hk
  split at hk
  ·rename_i jy cC xs ho
   obtain ⟨k1,k2,k3,k4,k5,k6⟩:=hk
   subst k1 k2 k3 k4
   cases rs with
   | row hl hv hn fu ha nZ=>
   rename_i cap p ad
   obtain ⟨p',hp,hr⟩:=hi.obj _ _ ho
   rw [hl] at hp
   cases hp
   obtain ⟨h1,ov,h2,h3,h4,h5,Fl,h6,cs,el,h7,h8,h9⟩:=hr
   by_cases lx:ys=[]
   ·subst lx
    simp only [List.length_nil,Nat.add_zero,List.append_nil] at k6 nP
    have Vv:h.set r (.row i.size aY xs false)=h:=aa.ext fun q=>by
     simp only [aa.b9]
     split
     ·rename_i hq; subst hq; exact ho.symm
     ·rfl
    rw [Vv] at k6
    refine ⟨.slice (some ad) xs.length cap,w,κ,h,_,?_,k6,.row hl hv hn fu ha nZ,hi,Ev.refl κ h w⟩
    have Vj:(Builtin.firstCells i.size 0 u).run P w=.ok news.toArray w:=nP.cells
    have hnn:news=[]:=List.eq_nil_of_length_eq_zero (by simpa using wD)
    subst hnn
    rcases nP.kind with ⟨e',hk⟩ | hk<;>simp [Builtin.append_,run_underlying ht,run_underlying hk,sizeOf,typeInfo,i1,nP.len,Vj,fu,storeCells]
   ·have hpl:0<ys.length:=List.length_pos_iff.2 lx
    have hle:xs.length+ys.length≤140737488355328:=Nat.le_trans (Nat.le_mul_of_pos_right _ HI) k5
    have ug:∀y∈xs++ys,y.length=i.size:=fun y hh=>by
     rcases List.mem_append.1 hh with hh | hh
     ·exact h6 y hh
     ·exact (hy y hh).1
    by_cases uf:xs.length+ys.length≤cap
    ·-- there is room: in place
     rcases ha h1 with ue | ⟨tf,mg⟩
     ·omega
     ·simp only [Nat.zero_mul,Nat.add_zero,Nat.zero_add] at tf mg
      subst tf
      have LM:p.base+(xs.length+ys.length)*i.size≤cs.size:=by
       have:(xs.length+ys.length)*i.size≤p.cap*i.size:=Nat.mul_le_mul_right _ (by omega)
       omega
      rw [Nat.add_mul] at LM
      have gm:=lG (P:=P) (w:=w) (ty:=ty) ht i1 h7 nP uf (off:=p.base) (by omega)
      let BR:Array Value:=(cs.toList.take (p.base+xs.length*i.size)++news++cs.toList.drop (p.base+xs.length*i.size+news.length)).toArray
      have le:Le κ w κ (w.setRow p.blk BR):=vX hi ⟨r,_,p,ho,rfl,hl,Own.self⟩ BR
      let p':Place:={ p with aY:=aY+ys.length,du:=[],ng:=by simp }
      have NP:Le κ w (κ.put r p') (w.setRow p.blk BR):=by
       refine ⟨fun b hb=>⟨hb,(le.jv b hb).2⟩,fun q pq hq=>?_⟩
       by_cases hqr:q=r
       ·subst hqr
        rw [hl] at hq
        cases hq
        exact ⟨p',by simp [cT.put],by simp [p',h1],fun e=>absurd (by simpa [p',h1] using e) lx,tN.VT (by omega) rfl⟩
       ·exact ⟨pq,by simp [cT.put,hqr,hq],Nat.le_refl _,fun _=>rfl,tN.refl pq⟩
      have aeb:iN (κ.put r p') (w.setRow p.blk BR) p' (.row i.size (aY+ys.length) (xs++ys) false):=by
       refine ⟨rfl,by omega,h2,fun e=>(by cases e),fun _=>h4 rfl,by simp [p']; omega,Fl,ug,BR,el,setRow_heap w p.blk cs _ el (0,0) h7,?_,fun q x j d hx hj=>?_⟩
       ·simp only [BR,p',List.size_toArray,List.length_append,List.length_take,List.length_drop,Array.length_toList]
        omega
       ·have ig:p.base+xs.length*i.size+news.length≤cs.toList.length:=by simp; omega
        simp only [BR,List.getElem?_toArray]
        rw [j7 _ _ _ _ ig]
        have yr:j<i.size:=by rw [←ug x (List.mem_of_getElem? hx)]; exact (List.getElem?_eq_some_iff.1 hj).1
        by_cases hq:q<xs.length
        ·rw [List.getElem?_append_left hq] at hx
         obtain ⟨v,g1,g2⟩:=h9 _ _ _ _ hx hj
         have:q*i.size+i.size≤xs.length*i.size:=by
          calc q*i.size+i.size=(q+1)*i.size:=by rw [Nat.add_mul,Nat.one_mul]
           _≤xs.length*i.size:=Nat.mul_le_mul_right _ hq
         rw [if_neg (by simp only [p']; omega)]
         exact ⟨v,by simpa using g1,g2.mono NP⟩
        ·rw [List.getElem?_append_right (by omega)] at hx
         obtain ⟨v,g1,g2⟩:=Vr.get _ d (fZ (fun y hh=>(hy y hh).1) hx hj)
         have ad_:=(List.getElem?_eq_some_iff.1 g1).1
         have hqq:q*i.size=xs.length*i.size+(q - xs.length)*i.size:=by rw [←Nat.add_mul]; congr 1; omega
         simp only [p']
         rw [if_pos (by omega)]
         refine ⟨v,?_,g2.mono NP⟩
         rw [←g1]
         congr 1
         omega
      obtain ⟨c1,c2⟩:=Inv.change (p':=p') hi ho hl rfl (o':=.row i.size (aY+ys.length) (xs++ys) false) rfl (w':=w.setRow p.blk BR) (by simp) (by have:=hi.jV r p hl; simpa [p'] using this) (.inl rfl) (by simp [p',h1]) (fun e=>absurd (by simpa [p',h1] using e) lx) (fun e=>by omega) rfl rfl rfl (fun b _ hb=>setRow_other w p.blk b _ hb) aeb
      refine ⟨_,_,_,_,_,gm,k6,?_,c1,c2⟩
      exact .row (p:=p') (by simp [cT.put]) (Nat.le_refl _) (by omega) uf (fun _=>.inr ⟨by simp [p'],by simp [p']; omega⟩) (by simp [p'])
    ·-- there is none: a new block
     have mI:Inv κ h w.drew:=hi.of_heap rfl
     have ah2:Le κ w κ w.drew:=Le.of_heap rfl
     have hold:∃mP:List Value,(Builtin.firstCells i.size xs.length (.slice (some ad) xs.length cap)).run P w.drew=.ok mP.toArray w.drew∧cn κ w mP xs.flatten:=by
      rcases ha h1 with ue | ⟨tf,mg⟩
      ·have yu:xs=[]:=List.eq_nil_of_length_eq_zero (by omega)
       subst yu
       exact ⟨[],by rw [run_firstCells_some w.drew i.size _ ad _ cap [] (by simp) (by simp)],.nil⟩
      ·simp only [Nat.zero_mul,Nat.add_zero] at tf
       subst tf
       obtain ⟨mP,n1,n2,n3⟩:=s7 (κ:=κ) (w:=w) (b:=p.blk) (o:=p.base) h6 jN fun q y j d hq hj=>by
        obtain ⟨v,g1,g2⟩:=h9 q y j d hq hj
        exact ⟨v,by rw [cell_of_row w _ _ cs el _ h7]; exact g1,g2⟩
       exact ⟨mP,run_firstCells_some w.drew i.size _ _ _ cap mP n2 (fun j v hv=>by rw [eM]; exact n3 j v hv),n1⟩
     obtain ⟨mP,o1,o2⟩:=hold
     have hol:mP.length=xs.length*i.size:=by rw [o2.length,eZ h6]
     have gm:=run_append_grow_src (P:=P) w t tx ty e i zv ht i1 i4 (some ad) xs.length cap mP o1 u ys.length news nP (by omega) (by omega) (by
      rw [hby]
      exact growslice_fits (by omega) k5)
     have Zw:=grownCap_ge w (xs.length+ys.length) cap e
     have hgm:=grownCap_le_maxLen w (xs.length+ys.length) cap e (by simp only [maxLen]; omega)
     simp only [maxLen] at hgm
     generalize grownCap w (xs.length+ys.length) cap e=gc at gm Zw hgm
     have Vs:=(o2.append Vr).mono ah2
     rw [←List.flatten_append] at Vs
     let BR:Array Value:=(mP++news).toArray++Builtin.zeroCells zv.cells (gc - (xs.length+ys.length))
     let p':Place:={ blk:=w.heap.size,base:=0,aY:=aY+ys.length,cap:=gc,sz:=i.size,rc:=none }
     have NP:Le κ w (κ.put r p') (w.drew.alloc (.cells BR e)):=by
      refine ⟨fun b hb=>⟨hb,heap_alloc_old w.drew _ (hi.gM b hb)⟩,fun q pq hq=>?_⟩
      by_cases hqr:q=r
      ·subst hqr
       rw [hl] at hq
       cases hq
       exact ⟨p',by simp [cT.put],by simp [p',h1],fun e=>absurd (by simpa [p',h1] using e) lx,tN.VT (by omega) rfl⟩
      ·exact ⟨pq,by simp [cT.put,hqr,hq],Nat.le_refl _,fun _=>rfl,tN.refl pq⟩
     have Vt:=(o2.append Vr).mono NP
     rw [←List.flatten_append] at Vt
     have aeb:iN (κ.put r p') (w.drew.alloc (.cells BR e)) p' (.row i.size (aY+ys.length) (xs++ys) false):=by
      refine ⟨rfl,by omega,rfl,fun e=>(by cases e),fun _ hx=>?_,by simp [p']; exact Zw,hgm,ug,BR,e,dZ w.drew _,?_,fun q x j d hx hj=>?_⟩
      ·have:=hi.gM _ hx
       simp [p'] at this
      ·simp only [BR,p',Array.size_append,List.size_toArray,List.length_append,size_zeroCells,hol,wD,hzs]
       rw [←Nat.add_mul,←Nat.add_mul,Nat.add_sub_cancel' Zw,Nat.zero_add]
       exact Nat.le_refl _
      ·obtain ⟨v,g1,g2⟩:=Vt.get _ d (fZ ug hx hj)
       refine ⟨v,?_,g2⟩
       have ig:=(List.getElem?_eq_some_iff.1 g1).1
       simp only [p',BR,Nat.zero_add]
       rw [Array.getElem?_append_left (by simpa using ig)]
       simpa using g1
     obtain ⟨c1,c2⟩:=Inv.change (p':=p') hi ho hl rfl (o':=.row i.size (aY+ys.length) (xs++ys) false) rfl (w':=w.drew.alloc (.cells BR e)) (by simp) (by simp [p']) (.inr (Nat.le_refl _)) (by simp [p',h1]) (fun e=>absurd (by simpa [p',h1] using e) lx) (fun e=>by omega) rfl rfl rfl
      (fun b hb _=>heap_alloc_old w.drew _ hb) aeb
     refine ⟨_,_,_,_,_,gm,k6,?_,c1,c2⟩
     exact .row (p:=p') (by simp [cT.put]) (Nat.le_refl _) (by omega) Zw (fun _=>.inr ⟨by simp [p'],by simp [p']⟩) (by simp [p'])
  ·exact hk.elim
 | _=>exact hk.elim
end Go.Proofs.YtpklkpkfgmoghaaGreatDoor.Zz
