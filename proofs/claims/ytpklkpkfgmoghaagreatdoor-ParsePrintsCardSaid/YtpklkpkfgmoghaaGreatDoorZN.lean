/- The instructions that look at memory, or write it. -/
import Derived.Test.YtpklkpkfgmoghaaGreatDoorZI
import Derived.Laws.Rows
import Derived.Deep.AppendSrc
import Derived.Laws.CopyRow
import Derived.Deep.OwnRows
import Derived.Laws.MakeOwn
set_option linter.unnecessarySimpa false
set_option linter.unusedVariables false
set_option linter.unusedSimpArgs false
namespace Go.Proofs.YtpklkpkfgmoghaaGreatDoor.Zz
variable {P:Program} {κ:cp} {h:aa} {w:World} {σ:Fr} {n:Nat} {a:Act}
theorem ji {t:TypeId} {k:Option Nat} (hs:shapeOf P t=some k) {ad:Addr} {ds:List D} {off:Nat} {d:D} (e:gz ds off k=some d)
  (hc:∀j d,ds[off+j]? =some d→∃v,w.cell? (ad.add j)=some v∧cd κ w v d):∃v,(loadVar t ad).run P w=.ok v w∧cd κ w v d:=by
 cases k with
 | none=>
  obtain ⟨h1,_⟩:=n_ hs w
  simp only [gz] at e
  obtain ⟨v,e1,r⟩:=hc 0 d (by simpa using e)
  have Y2:w.cell? ad=some v:=by simpa [Addr.add] using e1
  exact ⟨v,by simp [loadVar,h1,Y2],r⟩
 | some m=>
  obtain ⟨h1,h2⟩:=oa hs w
  simp only [gz] at e
  split at e
  ·ab hl
   cases e
   have hex:∀j,∃v,j<m→w.cell? (ad.add j)=some v∧∀d,ds[off+j]? =some d→cd κ w v d:=fun j=>by
    by_cases hj:j<m
    ·have hZ:off+j<ds.length:=by omega
     obtain ⟨v,e1,r⟩:=hc j ds[off+j] (by simp [hZ])
     exact ⟨v,fun _=>⟨e1,fun d hd=>by simp [hZ] at hd; subst hd; exact r⟩⟩
    ·exact ⟨undef,fun h=>absurd h hj⟩
   obtain ⟨f,hf⟩:=Classical.axiomOfChoice hex
   have hr:=run_loadCells (P:=P) w ad m f fun j hj=>(hf j hj).1
   refine ⟨.agg ((List.range m).map f).toArray,by simp [loadVar,h1,run_sizeOf h2,hr],bP.agg ?_⟩
   refine bP.nS (by simp; omega) fun i d hd=>?_
   rw [List.getElem?_take] at hd
   split at hd
   ·ab hi
    rw [List.getElem?_drop] at hd
    exact ⟨f i,by simp [hi],(hf i hi).2 d hd⟩
   ·cases hd
  ·cases e
theorem tA [aN] (hi:Inv κ h w) {t:TypeId} {k:Option Nat} (hs:shapeOf P t=some k) {u:Value} {x d:D} (r:cd κ w u x) (e:eJ h k x=some d):
  ∃v,(Instr.loadAt t u).run P w=.ok v w∧cd κ w v d:=by
 unfold eJ at e
 split at e
 ·split at e
  ·ab ds ho
   split at e
   ·ab uU
    subst uU
    cases r with
    | ptr hl hv ha=>
    ab id off _ p a
    obtain ⟨p',hp,hr⟩:=hi.obj _ _ ho
    rw [hl] at hp
    cases hp
    obtain ⟨h1,h2,h3,cs,ty,h4,h5,h6⟩:=hr
    have p3:=ha h1
    subst p3
    obtain ⟨v,e1,e2⟩:=ji (P:=P) (κ:=κ) (w:=w) hs e (ad:=⟨p.blk,p.base+off,none⟩) fun j d hd=>by
     obtain ⟨v,g1,g2⟩:=h6 _ d hd
     refine ⟨v,?_,g2⟩
     rw [dQ,cell_of_row w _ _ cs ty _ h4,←g1,h2]
     congr 1
     omega
    exact ⟨v,by simp [Instr.loadAt,Instr.sureAddr,e1],e2⟩
   ·cases e
  ·cases e
 ·cases r with
  | c8 f hb hc hr=>
  ab cells off b base
  obtain ⟨v,e1,e2⟩:=ji (P:=P) (κ:=κ) (w:=w) hs e (ad:=⟨b,base+off,none⟩) fun j d hd=>⟨f _,by rw [dQ,Nat.add_assoc]; exact hc _ d hd,hr _ d hd⟩
  exact ⟨v,by simp [Instr.loadAt,Instr.sureAddr,e1],e2⟩
 ·split at e
  ·ab sz bW xs fz ho
   split at e
   ·ab uU
    subst uU
    split at e
    ·ab x hx
     cases r with
     | eM hl hv ha=>
     ab p a
     obtain ⟨p',hp,hr⟩:=hi.obj _ _ ho
     rw [hl] at hp
     cases hp
     obtain ⟨h1,lT,h2,h3,h4,h5,Bi,h6,cs,ty,h7,h8,h9⟩:=hr
     have p3:=ha h1
     obtain ⟨v,e1,e2⟩:=ji (P:=P) (κ:=κ) (w:=w) hs e (ad:=a) fun j d hd=>by
      obtain ⟨v,g1,g2⟩:=h9 _ x _ d hx hd
      refine ⟨v,?_,g2⟩
      rw [p3,dQ,cell_of_row w _ _ cs ty _ h7,←g1,h2]
      congr 1
      omega
     exact ⟨v,by simp [Instr.loadAt,Instr.sureAddr,e1],e2⟩
    ·cases e
   ·cases e
  ·ab sz bW xs f9 ho
   split at e
   ·ab uU
    subst uU
    split at e
    ·ab x hx
     cases r with
     | eM hl hv ha=>
     ab p a
     obtain ⟨p',hp,hr⟩:=hi.obj _ _ ho
     rw [hl] at hp
     cases hp
     obtain ⟨h1,lT,h2,h3,h4,h5,Bi,h6,⟨cs,ty,h7,h8,h9⟩,_⟩:=hr
     have p3:=ha h1
     obtain ⟨v,e1,e2⟩:=ji (P:=P) (κ:=κ) (w:=w) hs e (ad:=a) fun j d hd=>by
      obtain ⟨v,g1,g2⟩:=h9 _ x _ d hx hd
      refine ⟨v,?_,g2⟩
      rw [p3,dQ,cell_of_row w _ _ cs ty _ h7,←g1,h2,h4]
      congr 1
      omega
     exact ⟨v,by simp [Instr.loadAt,Instr.sureAddr,e1],e2⟩
    ·cases e
   ·cases e
  ·cases e
 ·cases e
theorem pD [aN] (hi:Inv κ h w) {u:Value} {x:D} {ys:List (List D)} (r:cd κ w u x) (e:cO h x=some ys) {sz:Nat} (mU:∀y∈ys,y.length=sz) (h_:0<sz):
  (ys=[]∧∃ba cap,u=.slice ba 0 cap∧(ba=none→cap=0))∨∃b o cap,u=.slice (some ⟨b,o,none⟩) ys.length cap∧∀i y j d,ys[i]? =some y→y[j]? =some d→∃v,w.cell? ⟨b,o+i*sz+j,none⟩=some v∧cd κ w v d:=by
 unfold cO at e
 split at e
 ·cases e; cases r; exact .inl ⟨rfl,none,0,rfl,fun _=>rfl⟩
 ·cases e
  cases r with
  | slnil hb=>exact .inl ⟨rfl,_,_,rfl,hb⟩
  | sl f hn dY qP hc hr=>
   ab b o gS cap
   refine .inr ⟨b,o,cap,rfl,fun i y j d hy hd=>?_⟩
   have:gS=sz:=by rw [←qP y (List.mem_of_getElem? hy),mU y (List.mem_of_getElem? hy)]
   subst this
   exact ⟨f i j,(hc i y j d hy hd).2,hr i y j d hy hd⟩
 ·split at e
  ·ab r0 aR off len hx gS bW xs fz ho
   split at e
   ·ab uU
    obtain ⟨uU,hle⟩:=uU
    subst uU
    cases e
    cases r with
    | row hl hv hn dY ha lI=>
    ab cap p ad
    obtain ⟨p',hp,hr⟩:=hi.obj _ _ ho
    rw [hl] at hp
    cases hp
    obtain ⟨h1,lT,h2,h3,h4,h5,Bi,h6,cs,ty,h7,h8,h9⟩:=hr
    have hlen:((xs.drop off).take len).length=len:=by simp; omega
    rcases ha h1 with qN | ⟨p3,kR⟩
    ·have FL:len=0:=by omega
     subst FL
     exact .inl ⟨by simp,some ad,cap,rfl,fun h=>by cases h⟩
    ·subst p3
     refine .inr ⟨p.blk,p.base+off*p.sz,cap,by rw [hlen],fun i y j d hy hd=>?_⟩
     have p5:=List.mem_of_getElem? hy
     rw [List.getElem?_take] at hy
     split at hy
     ·rw [List.getElem?_drop] at hy
      have Si:p.sz=sz:=by
       rw [h2,←h6 y (List.mem_of_getElem? hy),mU y p5]
      obtain ⟨v,g1,g2⟩:=h9 _ y j d hy hd
      refine ⟨v,?_,g2⟩
      rw [cell_of_row w _ _ cs ty _ h7,←g1,Si,show gS=sz by rw [←h2,Si],Nat.add_mul]
      congr 1
      omega
     ·cases hy
   ·cases e
  ·cases e
 ·split at e
  ·ab id off len hx ds ho
   split at e
   ·ab hle
    cases e
    cases r with
    | r7 hl hv hn dY ha=>
    ab cap p ad
    obtain ⟨p',hp,hr⟩:=hi.obj _ _ ho
    rw [hl] at hp
    cases hp
    obtain ⟨h1,h2,h3,cs,ty,h4,h5,h6⟩:=hr
    have hlen:(((ds.drop off).take len).map fun d=>[d]).length=len:=by simp; omega
    rcases ha h1 with qN | p3
    ·have FL:len=0:=by omega
     subst FL
     exact .inl ⟨by simp,some ad,cap,rfl,fun h=>by cases h⟩
    ·subst p3
     refine .inr ⟨p.blk,p.base+off,cap,by rw [hlen],fun i y j d hy hd=>?_⟩
     have p5:=List.mem_of_getElem? hy
     simp only [List.getElem?_map,Option.map_eq_some_iff] at hy
     obtain ⟨d0,hy,rfl⟩:=hy
     have FN:sz=1:=by rw [←mU _ p5]; rfl
     subst FN
     cases j with
     | succ j=>simp at hd
     | zero=>
      simp at hd
      subst hd
      rw [List.getElem?_take] at hy
      split at hy
      ·rw [List.getElem?_drop] at hy
       obtain ⟨v,g1,g2⟩:=h6 _ d0 hy
       refine ⟨v,?_,g2⟩
       rw [cell_of_row w _ _ cs ty _ h4,←g1]
       congr 1
       omega
      ·cases hy
   ·cases e
  ·cases e
 ·cases e
end Go.Proofs.YtpklkpkfgmoghaaGreatDoor.Zz
namespace Go.Proofs.YtpklkpkfgmoghaaGreatDoor.Zz
variable {P:Program} {κ:cp} {h:aa} {w:World} {σ:Fr} {n:Nat} {a:Act} {K E:D→aa→Prop}
theorem cp.rm {id:Nat} {p:Place} (e:κ.loc id=some p):κ.put id p=κ:=by
 cases κ with
 | mk gJ loc=>
 simp only [cp.put,cp.mk.injEq,true_and]
 funext i
 split
 ·ab h; subst h; exact e.symm
 ·rfl
theorem ix {α:Type} (cs vs:List α) (off k:Nat) (hl:off+vs.length≤cs.length):
  (cs.take off++vs++cs.drop (off+vs.length))[k]? =if off≤k∧k<off+vs.length then vs[k - off]? else cs[k]? :=by
 have h1:(cs.take off).length=off:=by simp; omega
 by_cases c1:k<off
 ·rw [if_neg (by omega),List.append_assoc,List.getElem?_append_left (by omega),List.getElem?_take,if_pos c1]
 ·by_cases c2:k<off+vs.length
  ·rw [if_pos (by omega),List.getElem?_append_left (by simp; omega),List.getElem?_append_right (by omega),h1]
  ·rw [if_neg (by omega),List.getElem?_append_right (by simp; omega)]
   simp only [List.length_append,h1,List.getElem?_drop]
   congr 1
   omega
theorem sT [aN] (hi:Inv κ h w) {b:Nat} (ho:lJ κ h b) (cs:Array Value):Le κ w κ (w.setRow b cs):=
 ⟨fun x hx=>⟨hx,setRow_other w b x cs fun e=>hi.jj ho (e▸hx)⟩,(Le.refl κ w).loc⟩
theorem AE [aN] (hi:Inv κ h w) {id:Nat} {o o':cR} {p:Place} (ho:h.f id=some o) (hp:κ.loc id=some p) (hl:o.live=true) (Se:o'.live=true) (cs:Array Value)
  (hr:gf κ (w.setRow p.blk cs) p o') (xJ:∀b,mg o' p b→mg o p b:=by first | exact fun b h=>Or.inl (h.zD (by simp)) | exact fun b h=>h):Inv κ (h.set id o') (w.setRow p.blk cs)∧Ev κ h w κ (h.set id o') (w.setRow p.blk cs):=by
 have:=Inv.uQ (w':=w.setRow p.blk cs) (p':=p) hi ho hp hl Se (by simp) (by have:=hi.ij id p hp; simpa using this) (fun b hb=>.inl (xJ b hb)) (Nat.le_refl _) (fun _=>rfl) (qx.refl p) rfl rfl rfl
  (fun b _ hb=>setRow_other w p.blk b cs fun e=>hb (e▸mg.self)) (by rw [cp.rm hp]; exact hr)
 Xs [cp.rm hp] at this
theorem vr {vs:List Value} {es:List D} (r:bP κ w vs es) (h:es.all cf=true):∀v∈vs,v.oneCell'=true:=by
 induction r with
 | nil=>intro v hv; cases hv
 | cons a _ ih=>
  simp at h
  intro v hv
  cases hv with
  | head=>exact (tN a h.1).1
  | tail _ hv=>exact ih (by simpa using h.2) v hv
theorem rH {t:TypeId} {m:Nat} (hs:bT P t=some m) {v:Value} (hv:v.cells.size=m) (h1:∀u∈v.cells.toList,u.oneCell'=true) {b off:Nat} {cs:Array Value} {ty:TypeId}
  (hb:w.heap[b]? =some (.cells cs ty (0,0))) (hle:off+m≤cs.size):
  (storeVar t ⟨b,off,none⟩ v).run P w=.ok () (w.setRow b (cs.toList.take off++v.cells.toList++cs.toList.drop (off+v.cells.toList.length)).toArray):=by
 have:=run_storeCells_at P b off ty v.cells.toList 0 cs w hb (by simp; omega) h1
 simp only [Nat.add_zero] at this
 simp only [storeVar,Sem.run_bind,run_sizeOf hs,Result.andThen]
 rw [if_neg (by simp [hv])]
 simpa using this
theorem mM [aN] (hi:Inv κ h w) {t:TypeId} {m:Nat} (hs:bT P t=some m) {u v:Value} {x d:D} (rx:cd κ w u x) (rv:cd κ w v d) {h':aa} (e:fx h m x d=some h'):
  ∃w',(Instr.storeAt t u v).run P w=.ok () w'∧Inv κ h' w'∧Ev κ h w κ h' w':=by
 unfold fx at e
 split at e
 ·ab hc
  obtain ⟨c1,c2⟩:=hc
  have ZP:d≠.undef:=by intro h; subst h; simp [bZ,cf] at c2
  have rc:=o_ rv ZP
  have one:=vr rc c2
  have lc:=rc.length
  have Ys:v.cells.size=m:=by rw [←c1,←lc]; simp
  split at e
  ·ab id aR off
   split at e
   ·ab ds ho
    split at e
    ·ab uU
     obtain ⟨uU,hle⟩:=uU
     subst uU
     cases e
     cases rx with
     | ptr hl hv ha=>
     ab p ad
     obtain ⟨p',hp,hr⟩:=hi.obj _ _ ho
     rw [hl] at hp
     cases hp
     obtain ⟨h1,h2,h3,cs,ty,h4,h5,h6⟩:=hr
     have p3:=ha h1
     have e_:=rH (P:=P) (w:=w) hs Ys one h4 (off:=p.base+off) (by omega)
     have le:=sT hi ⟨id,_,p,ho,rfl,hl,mg.self⟩ (cs.toList.take (p.base+off)++v.cells.toList++cs.toList.drop (p.base+off+v.cells.toList.length)).toArray
     have Oj:(Instr.storeAt t (.pointer (some ad)) v).run P w=(storeVar t ⟨p.blk,p.base+off,none⟩ v).run P w:=by rw [p3]; rfl
     refine ⟨_,Oj.trans e_,AE hi ho hl rfl rfl _ ⟨h1,h2,h3,_,ty,setRow_heap w p.blk cs _ ty (0,0) h4,?_,fun i d' vX=>?_⟩⟩
     ·simp [mI]; omega
     ·rw [pe] at vX
      have hZ:p.base+off+v.cells.toList.length≤cs.toList.length:=by simp; omega
      have ZN:i<ds.length:=by
       split at vX
       ·omega
       ·exact (List.getElem?_eq_some_iff.1 vX).1
      simp only [List.getElem?_toArray]
      rw [ix _ _ _ _ hZ]
      by_cases hc:off≤i∧i<off+(bZ d).length∧i<ds.length
      ·rw [if_pos hc] at vX
       obtain ⟨v',g1,g2⟩:=rc.get _ _ vX
       rw [if_pos (by omega)]
       exact ⟨v',by rw [h2,Nat.zero_add]; exact g1,g2.mono le⟩
      ·rw [if_neg hc] at vX
       obtain ⟨v',g1,g2⟩:=h6 _ _ vX
       rw [if_neg (by omega)]
       exact ⟨v',by simpa using g1,g2.mono le⟩
    ·cases e
   ·cases e
  ·ab r aR i f
   split at e
   ·ab sz bW xs ho
    split at e
    ·ab uU
     subst uU
     split at e
     ·ab y hy
      split at e
      ·ab hle
       cases e
       cases rx with
       | eM hl hv ha=>
       ab p ad
       obtain ⟨p',hp,hr⟩:=hi.obj _ _ ho
       rw [hl] at hp
       cases hp
       obtain ⟨h1,lT,h2,h3,h4,h5,Bi,h6,cs,ty,h7,h8,h9⟩:=hr
       have p3:=ha h1
       have mU:y.length=sz:=h6 y (List.mem_of_getElem? hy)
       have kD:i<xs.length:=(List.getElem?_eq_some_iff.1 hy).1
       have qO:p.base+i*sz+f+m≤cs.size:=by
        have:i*sz+sz≤p.cap*sz:=by
         calc i*sz+sz=(i+1)*sz:=by rw [Nat.add_mul,Nat.one_mul]
          _≤p.cap*sz:=Nat.mul_le_mul_right _ (by omega)
        omega
       have e_:=rH (P:=P) (w:=w) hs Ys one h7 (off:=p.base+i*sz+f) qO
       have le:=sT hi ⟨r,_,p,ho,rfl,hl,mg.self⟩ (cs.toList.take (p.base+i*sz+f)++v.cells.toList++cs.toList.drop (p.base+i*sz+f+v.cells.toList.length)).toArray
       have Oj:(Instr.storeAt t (.pointer (some ad)) v).run P w=(storeVar t ⟨p.blk,p.base+i*sz+f,none⟩ v).run P w:=by rw [p3,h2]; rfl
       refine ⟨_,Oj.trans e_,AE hi ho hl rfl rfl _ ⟨h1,lT,h2,h3,h4,by simpa using h5,Bi,?_,_,ty,setRow_heap w p.blk cs _ ty (0,0) h7,?_,fun i' x' j d' LN Bj=>?_⟩⟩
       ·intro z hz
        rcases List.mem_or_eq_of_mem_set hz with hz | hz
        ·exact h6 z hz
        ·rw [hz,mI]; exact mU
       ·simp; omega
       ·have hZ:p.base+i*sz+f+v.cells.toList.length≤cs.toList.length:=by simp; omega
        simp only [List.getElem?_toArray]
        rw [ix _ _ _ _ hZ]
        rw [List.getElem?_set] at LN
        split at LN
        ·ab he
         subst he
         cases LN
         rw [pe] at Bj
         have hj:j<y.length:=by
          split at Bj
          ·omega
          ·exact (List.getElem?_eq_some_iff.1 Bj).1
         by_cases hc:f≤j∧j<f+(bZ d).length∧j<y.length
         ·rw [if_pos hc] at Bj
          obtain ⟨v',g1,g2⟩:=rc.get _ _ Bj
          rw [if_pos (by omega)]
          refine ⟨v',?_,g2.mono le⟩
          rw [show p.base+i*sz+j - (p.base+i*sz+f)=j - f by omega]
          exact g1
         ·rw [if_neg hc] at Bj
          obtain ⟨v',g1,g2⟩:=h9 _ _ _ _ hy Bj
          rw [if_neg (by omega)]
          exact ⟨v',by simpa using g1,g2.mono le⟩
        ·ab he
         obtain ⟨v',g1,g2⟩:=h9 _ _ _ _ LN Bj
         have hj:j<sz:=by
          rw [←h6 x' (List.mem_of_getElem? LN)]
          exact (List.getElem?_eq_some_iff.1 Bj).1
         rw [if_neg ?_]
         ·exact ⟨v',by simpa using g1,g2.mono le⟩
         ·rintro ⟨q1,q2⟩
          rcases Nat.lt_or_ge i i' with ZN | hge
          ·have:i*sz+sz≤i'*sz:=by
            calc i*sz+sz=(i+1)*sz:=by rw [Nat.add_mul,Nat.one_mul]
             _≤i'*sz:=Nat.mul_le_mul_right _ ZN
           omega
          ·have:i'*sz+sz≤i*sz:=by
            calc i'*sz+sz=(i'+1)*sz:=by rw [Nat.add_mul,Nat.one_mul]
             _≤i*sz:=Nat.mul_le_mul_right _ (by omega)
           omega
      ·cases e
     ·cases e
    ·cases e
   ·cases e
  ·cases e
 ·cases e
theorem qT [aN] (hi:Inv κ h w) (t:TypeId) {v:Value} {ds:List D} (r:bP κ w v.cells.toList ds) (hk:∀id,h.f id=none→K (.ptr id 1 0) (h.set id (.cells ds))):
  ∃κ' h' ad d,(newVar t v).run P w=.ok ad (w.alloc (.cells v.cells t))∧K d h'∧cd κ' (w.alloc (.cells v.cells t)) (.pointer (some ad)) d∧Inv κ' h' (w.alloc (.cells v.cells t))∧Ev κ h w κ' h' (w.alloc (.cells v.cells t)):=by
 obtain ⟨id,fE,hf⟩:=hi.sB
 let p:Place:={ blk:=w.heap.size,base:=0,aR:=1,cap:=0,sz:=0,rc:=none }
 have le:=Le.alloc (κ:=κ) hi (.cells v.cells t) fE p
 obtain ⟨i1,e1⟩:=hi.alloc fE hf (.cells v.cells t) (.cells ds) p rfl rfl rfl ⟨rfl,rfl,fun hx=>by have:=hi.fl _ hx; simp [p] at this,v.cells,t,dq w _,by have:=r.length; simpa using this,fun i d hd=>by
  obtain ⟨u,g1,g2⟩:=r.get i d hd
  exact ⟨u,by simpa using g1,g2.mono le⟩⟩
 exact ⟨_,_,⟨w.heap.size,0,none⟩,_,rfl,hk id hf,.ptr (p:=p) (by simp [cp.put]) (Nat.le_refl 1) (fun _=>rfl),i1,e1⟩
end Go.Proofs.YtpklkpkfgmoghaaGreatDoor.Zz
namespace Go.Proofs.YtpklkpkfgmoghaaGreatDoor.Zz
variable {P:Program} {κ:cp} {h:aa} {w:World} {σ:Fr} {n:Nat} {a:Act} {K E:D→aa→Prop}
theorem dX {sz:Nat}:∀{xs:List (List D)},(∀x∈xs,x.length=sz)→xs.flatten.length=xs.length*sz
 | [],_=>by simp
 | x::xs,h=>by
  have h1:=h x (by simp)
  have h2:=dX (xs:=xs) fun y hy=>h y (by simp [hy])
  simp only [List.flatten_cons,List.length_append,h1,h2,List.length_cons]
  rw [Nat.add_mul,Nat.one_mul,Nat.add_comm]
theorem eR {sz:Nat}:∀{xs:List (List D)},(∀x∈xs,x.length=sz)→∀{i j:Nat} {x:List D} {d:D},xs[i]? =some x→x[j]? =some d→xs.flatten[i*sz+j]? =some d
 | [],_,i,j,x,d,h1,_=>by simp at h1
 | y::xs,h,i,j,x,d,h1,h2=>by
  have hy:=h y (by simp)
  cases i with
  | zero=>
   simp at h1
   subst h1
   have hj:j<y.length:=(List.getElem?_eq_some_iff.1 h2).1
   rw [List.flatten_cons,Nat.zero_mul,Nat.zero_add,List.getElem?_append_left hj]
   exact h2
  | succ i=>
   have:=eR (xs:=xs) (fun z hz=>h z (by simp [hz])) (i:=i) (by simpa using h1) h2
   rw [List.flatten_cons,List.getElem?_append_right (by rw [hy,Nat.add_mul]; omega),hy,←this]
   congr 1
   rw [Nat.add_mul]
   omega
theorem qf (as bs:List D) (off:Nat) (ds:List D):setAt (as++bs) (as.length+off) ds=as++setAt bs off ds:=by
 induction ds generalizing bs off with
 | nil=>rfl
 | cons d ds ih=>
  rw [setAt,setAt]
  have:(as++bs).set (as.length+off) d=as++bs.set off d:=by
   rw [List.set_append_right _ _ (by omega)]
   congr 2
   omega
  rw [this,Nat.add_assoc,ih]
theorem rE (as bs ds:List D) (h:as.length=ds.length):setAt (as++bs) 0 ds=ds++bs:=by
 apply List.ext_getElem?
 intro i
 rw [pe]
 by_cases c:i<ds.length
 ·rw [if_pos (by simp; omega),List.getElem?_append_left c]
  simp
 ·rw [if_neg (by omega),List.getElem?_append_right (by omega),List.getElem?_append_right (by omega),h]
theorem s7 {sz:Nat}:∀{xs:List (List D)},(∀x∈xs,x.length=sz)→∀{i:Nat} {y:List D},i<xs.length→y.length=sz→(xs.set i y).flatten=setAt xs.flatten (i*sz) y
 | [],_,i,y,h1,_=>by simp at h1
 | x::xs,h,i,y,h1,h2=>by
  have hx:=h x (by simp)
  cases i with
  | zero=>
   simp only [List.set_cons_zero,List.flatten_cons,Nat.zero_mul]
   rw [rE _ _ _ (by omega)]
  | succ i=>
   have:=s7 (xs:=xs) (fun z hz=>h z (by simp [hz])) (i:=i) (y:=y) (by simpa using h1) h2
   simp only [List.set_cons_succ,List.flatten_cons,this]
   rw [show (i+1)*sz=x.length+i*sz by rw [hx,Nat.add_mul,Nat.one_mul,Nat.add_comm],qf]
theorem nB {sz:Nat}:∀(ps:List (Nat×D)) (xs ys:List (List D)),(∀x∈xs,x.length=sz)→ew sz xs ps=some ys→
  ia xs.flatten (ps.map fun p=>(p.1*sz,sz,p.2))=some ys.flatten∧(∀y∈ys,y.length=sz)∧ys.length=xs.length
 | [],xs,ys,h,e=>by simp [ew] at e; subst e; exact ⟨by simp [ia],h,rfl⟩
 | (i,d)::ps,xs,ys,h,e=>by
  simp only [ew] at e
  split at e
  ·ab hc
   obtain ⟨c1,c2,c3⟩:=hc
   obtain ⟨h1,h2,h3⟩:=nB ps _ ys (fun x hx=>by
    rcases List.mem_or_eq_of_mem_set hx with hx | hx
    ·exact h x hx
    ·rw [hx]; exact c1) e
   refine ⟨?_,h2,by simpa using h3⟩
   simp only [List.map_cons,ia]
   have hle:i*sz+sz≤xs.flatten.length:=by
    rw [dX h]
    calc i*sz+sz=(i+1)*sz:=by rw [Nat.add_mul,Nat.one_mul]
     _≤xs.length*sz:=Nat.mul_le_mul_right _ c2
   rw [if_pos ⟨c1,hle,c3⟩,←s7 h c2 c1]
   exact h1
  ·cases e
theorem rp (zs:List D) (m:Nat):∀k,k<m*zs.length→(List.replicate m zs).flatten[k]? =zs[k % zs.length]? :=by
 induction m with
 | zero=>intro k hk; omega
 | succ m ih=>
  intro k hk
  rw [List.replicate_succ,List.flatten_cons]
  by_cases c:k<zs.length
  ·rw [List.getElem?_append_left c,Nat.mod_eq_of_lt c]
  ·rw [List.getElem?_append_right (by omega),ih _ (by rw [Nat.add_mul] at hk; omega)]
   have:k % zs.length=(k - zs.length) % zs.length:=by
    rw [Nat.mod_eq_sub_mod (by omega)]
   rw [this]
theorem MN {zs:List D} {zv:Array Value} (hz:bP κ w zv.toList zs) (m:Nat):bP κ w (((Array.range (m*zs.length)).map (zv[· % zv.size]!)).toList) (List.replicate m zs).flatten:=by
 have hl:=hz.length
 simp at hl
 refine bP.nS ?_ fun i d hd=>?_
 ·rw [dX (sz:=zs.length) (by intro x hx; rw [List.eq_of_mem_replicate hx])]
  simp
 ·have hi:i<m*zs.length:=by
   have:=(List.getElem?_eq_some_iff.1 hd).1
   rw [dX (sz:=zs.length) (by intro x hx; rw [List.eq_of_mem_replicate hx])] at this
   simpa using this
  rw [rp zs m i hi] at hd
  obtain ⟨v,e,r⟩:=hz.get _ _ hd
  refine ⟨v,?_,r⟩
  have e':zv[i % zv.size]? =some v:=by rw [hl]; simpa using e
  have hZ:=(Array.getElem?_eq_some_iff.1 e').1
  have e3:zv[i % zv.size]! =v:=by
   rw [getElem!_pos zv (i % zv.size) hZ]
   exact (Array.getElem?_eq_some_iff.1 e').2
  simp [hi,e3]
theorem p_ [aN] (hi:Inv κ h w) (t:TypeId) {cs:Array Value} {xs:List (List D)} {sz cap:Nat} (mU:∀x∈xs,x.length=sz) (dY:xs.length≤cap) (H3:cap≤9223372036854775807) (uE:cap*sz≤cs.size)
  (hr:∀(i:Nat) (x:List D) (j:Nat) (d:D),xs[i]? =some x→x[j]? =some d→∃v,cs[i*sz+j]? =some v∧cd κ w v d)
  (hk:∀id,h.f id=none→K (.row id (xs.length+2) 0 xs.length) (h.set id (.row sz (xs.length+2) xs false))):
  ∃κ' h' d,K d h'∧cd κ' (w.alloc (.cells cs t)) (.slice (some ⟨w.heap.size,0,none⟩) xs.length cap) d∧Inv κ' h' (w.alloc (.cells cs t))∧Ev κ h w κ' h' (w.alloc (.cells cs t)):=by
 obtain ⟨id,fE,hf⟩:=hi.sB
 let p:Place:={ blk:=w.heap.size,base:=0,aR:=xs.length+2,cap,sz,rc:=none }
 have le:=Le.alloc (κ:=κ) hi (.cells cs t) fE p
 obtain ⟨i1,e1⟩:=hi.alloc fE hf (.cells cs t) (.row sz (xs.length+2) xs false) p rfl rfl rfl ⟨rfl,by omega,rfl,fun h=>(by cases h),fun _ hx=>by have:=hi.fl _ hx; simp [p] at this,dY,H3,mU,cs,t,dq w _,by simpa [p] using uE,fun i x j d hx hj=>by
  obtain ⟨v,g1,g2⟩:=hr i x j d hx hj
  exact ⟨v,by simpa [p] using g1,g2.mono le⟩⟩
 exact ⟨_,_,_,hk id hf,.row (p:=p) (by simp [cp.put]) (Nat.le_refl _) (by omega) dY (fun _=>.inr ⟨by simp [p],by simp [p]⟩) (by simp [p]),i1,e1⟩
theorem wk [aN] (hi:Inv κ h w) (t:TypeId) {cs:Array Value} {fz:Nat×Nat} {xs:List (List D)} {sz cap:Nat} (mU:∀x∈xs,x.length=sz) (dY:xs.length≤cap) (H3:xs.length≤9223372036854775807)
  (hr:∀(i:Nat) (x:List D) (j:Nat) (d:D),xs[i]? =some x→x[j]? =some d→∃v,cs[i*sz+j]? =some v∧cd κ w v d):
  ∃κ',cd κ' (w.alloc (.cells cs t fz)) (.slice (some ⟨w.heap.size,0,none⟩) xs.length cap) (.sl xs)∧Inv κ' h (w.alloc (.cells cs t fz))∧Ev κ h w κ' h (w.alloc (.cells cs t fz)):=by
 obtain ⟨i1,e1⟩:=hi.K_ (.cells cs t fz)
 have le:=e1.le hi
 refine ⟨_,.sl (sz:=sz) (fun i j=>cs.getD (i*sz+j) undef) H3 dY mU (fun i x j d hx hj=>⟨Or.inr rfl,?_⟩) (fun i x j d hx hj=>?_),i1,e1⟩
 ·obtain ⟨v,g1,g2⟩:=hr i x j d hx hj
  rw [cell_of_row _ _ _ cs t fz (dq w _),Nat.zero_add,g1]
  simp [Array.getD_eq_getD_getElem?,g1]
 ·obtain ⟨v,g1,g2⟩:=hr i x j d hx hj
  have:cs.getD (i*sz+j) undef=v:=by simp [Array.getD_eq_getD_getElem?,g1]
  rw [this]
  exact g2.mono le
end Go.Proofs.YtpklkpkfgmoghaaGreatDoor.Zz
namespace Go.Proofs.YtpklkpkfgmoghaaGreatDoor.Zz
variable {P:Program} {κ:cp} {h:aa} {w:World} {σ:Fr} {n:Nat} {a:Act} {K E:D→aa→Prop}
theorem fW {t e:TypeId} (h:nE P t=some e):P.underlying t=some (.slice e):=by
 unfold nE at h
 split at h<;>cases h
 assumption
theorem ot {t:TypeId} {k:Nat} (e:bT P t=some k):∃i,P.info? t=some i∧i.size=k:=by
 unfold bT at e
 cases e1:P.info? t with
 | none=>simp [e1] at e
 | some i=>simp [e1] at e; exact ⟨i,rfl,e⟩
theorem sj {t e:TypeId} {sz m:Nat} {z:D} (ht:P.underlying t=some (.slice e)) (hs:bT P e=some sz) (hz:fQ P e=some z) (hb:m*sz≤16777216) (RA:(bZ z).length=sz) (h_:0<sz)
  {ps:List (Nat×Value)} {qs:List (Nat×D)} (hl:ps.length=qs.length) (hq:∀(i:Nat) (j:Nat) (v:Value),ps[i]? =some (j,v)→∃d,qs[i]? =some (j,d)∧cd κ w v d)
  {xs:List (List D)} (hx:ew sz (rowsOf sz (bZ z) m) qs=some xs):
  ∃cs,(Instr.buildSlice t m ps.toArray).run P w=.ok (.slice (some ⟨w.heap.size,0,none⟩) m m) (w.alloc (.cells cs e))∧bP κ w cs.toList xs.flatten∧(∀x∈xs,x.length=sz)∧xs.length=m:=by
 obtain ⟨zv,z1,z2,_⟩:=ja hz κ w
 have pt:∀x∈rowsOf sz (bZ z) m,x.length=sz:=by
  intro x hx
  rw [List.eq_of_mem_replicate hx,RA]
 obtain ⟨b1,b2,b3⟩:=nB qs _ xs pt hx
 have hz0:=MN z2 m
 rw [RA] at hz0
 have b1':ia (List.replicate m (bZ z)).flatten (qs.map fun p=>(p.1*sz,sz,p.2))=some xs.flatten:=b1
 obtain ⟨cs,f1,f2⟩:=pY (place:=fun i=>some (i*sz,sz)) (cells:=(Array.range (m*sz)).map (zv.cells[· % zv.cells.size]!)) hz0 ps (qs.map fun p=>(p.1*sz,sz,p.2)) (by simpa using hl) (fun i j v hv=>by
  obtain ⟨d,g1,g2⟩:=hq i j v hv
  exact ⟨_,sz,d,by simp [g1],rfl,g2⟩) _ b1'
 refine ⟨cs,?_,f2,b2,by simpa [rowsOf] using b3⟩
 have h1:¬(m*sz>2 ^ 24):=by omega
 simp only [Instr.buildSlice,Sem.run_bind,run_underlying ht,Result.andThen,run_sizeOf hs]
 rw [if_neg h1]
 by_cases h0:m*sz=0
 ·have hm:m=0:=by
   rcases Nat.mul_eq_zero.1 h0 with h | h
   ·exact h
   ·omega
  subst hm
  simp only [Nat.zero_mul,if_true,Sem.run_pure]
  have FK:(Array.range 0).map (fun i=>(#[]:Array Value)[i % (#[]:Array Value).size]!)=(Array.range (0*sz)).map (zv.cells[· % zv.cells.size]!):=by simp
  rw [←FK] at f1
  simp only [Sem.run_bind,Sem.run_pure,Result.andThen,f1,newRow,run_newObj]
  rfl
 ·rw [if_neg h0]
  simp only [Sem.run_bind,z1,Result.andThen,Sem.run_pure,f1,newRow,run_newObj]
  rfl
theorem CM {cs:Array Value} {xs:List (List D)} {sz:Nat} (h:bP κ w cs.toList xs.flatten) (mU:∀x∈xs,x.length=sz):
  ∀(i:Nat) (x:List D) (j:Nat) (d:D),xs[i]? =some x→x[j]? =some d→∃v,cs[i*sz+j]? =some v∧cd κ w v d:=fun i x j d h1 h2=>HA h _ d (eR mU h1 h2)
theorem uG [aN] (hi:Inv κ h w) {t e:TypeId} {jK:Nat} {z:D} (ht:P.underlying t=some (.slice e)) (hs:bT P e=some 1) (hb:gI P e=some jK) (hz:fQ P e=some z) (hzo:cf z=true) (h_:0<jK)
  {k1 k2:IntKind} {l:Int} (h0:0≤l) (hbd:l*jK≤140737488355328)
  (hk:∀id,h.f id=none→K (.row id (l.toNat+2) 0 l.toNat) (h.set id (.row 1 (l.toNat+2) (rowsOf 1 [z] l.toNat) false))):
  eA P κ h w K E ((do let x ←Instr.makeSlice t (.int k1 l) (.int k2 l); pure (Next.value x):Sem Next).run P w):=by
 obtain ⟨zv,z1,z2,i,ZB,hi2⟩:=pM hz κ w
 obtain ⟨o1,o2⟩:=tN z2 hzo
 obtain ⟨m,rfl⟩:=Int.eq_ofNat_of_zero_le h0
 simp only [Int.toNat_natCast] at hk
 have Zu:jK*m≤281474976710656:=by
  have:(m:Int)*(jK:Int)=((jK*m:Nat):Int):=by rw [Nat.mul_comm]; simp
  omega
 have hm:m≤281474976710656:=Nat.le_trans (Nat.le_mul_of_pos_left _ h_) Zu
 have ZD:(P.info? e).map (fun i=>(i.zero,i.size,i.bytes))=some (some zv,1,jK):=by
  obtain ⟨i',e1,e2⟩:=ot hs
  rw [ZB] at e1
  cases e1
  have We:i.bytes=jK:=by
   unfold gI at hb
   rw [ZB] at hb
   simpa using hb
  simp [ZB,hi2,e2,We]
 have e_:=RD t e zv jK ht ZD o2 k1 k2 m Zu (by omega) w
 simp only [Sem.run_bind,e_,Result.andThen,Sem.run_pure]
 obtain ⟨κ',h',d,a1,a2,a3,a4⟩:=p_ (K:=K) hi e (cs:=madeCells #[zv] m) (xs:=rowsOf 1 [z] m) (sz:=1) (cap:=m) (fun x hx=>by rw [List.eq_of_mem_replicate hx]; rfl) (by simp [rowsOf]) (by omega) (by simp [size_madeCells])
  (fun i x j d hx hj=>by
   have LN:=List.eq_of_mem_replicate (List.mem_of_getElem? hx)
   subst LN
   have Yl:i<m:=by
    have:=(List.getElem?_eq_some_iff.1 hx).1
    simpa [rowsOf] using this
   cases j with
   | succ j=>simp at hj
   | zero=>
    simp at hj
    subst hj
    exact ⟨zv,by simp [madeCells,Yl,Nat.mod_one],z2⟩)
  (by simpa [rowsOf] using hk)
 refine ⟨κ',h',d,a1,?_,a3,a4⟩
 simpa [rowsOf] using a2
end Go.Proofs.YtpklkpkfgmoghaaGreatDoor.Zz
namespace Go.Proofs.YtpklkpkfgmoghaaGreatDoor.Zz
variable {P:Program} {κ:cp} {h:aa} {w:World} {σ:Fr} {n:Nat} {a:Act} {K E:D→aa→Prop}
theorem jQ {t tx ty e:TypeId} {i:TypeInfo} (ht:P.underlying t=some (.slice e)) (hi:P.info? e=some i) {g off G5 Xy:Nat} {cur:Array Value} {el:TypeId} (hg:w.heap[g]? =some (.cells cur el (0,0)))
  {x:Value} {m:Nat} {news:List Value} (hs:Src P i.size tx x m news w) (qO:G5+m≤Xy) (uE:off+G5*i.size+news.length≤cur.size):
  (Builtin.append_ #[t,tx] ty #[.slice (some ⟨g,off,none⟩) G5 Xy,x]).run P w=
   .ok (.slice (some ⟨g,off,none⟩) (G5+m) Xy) (w.setRow g (cur.toList.take (off+G5*i.size)++news++cur.toList.drop (off+G5*i.size+news.length)).toArray):=by
 have nh:=run_storeCells_at P g (off+G5*i.size) el news 0 cur w hg (by simpa using uE) hs.one
 simp only [Nat.add_zero] at nh
 rcases hs.kind with ⟨e',hk⟩ | hk<;>simp [Builtin.append_,run_underlying ht,run_underlying hk,sizeOf,typeInfo,hi,hs.len,qO,hs.cells,Addr.add_lit,nh]
theorem pT {b o sz:Nat} {ys:List (List D)} (hy:∀y∈ys,y.length=sz) (h_:0<sz)
  (hc:∀(i:Nat) (y:List D) (j:Nat) (d:D),ys[i]? =some y→y[j]? =some d→∃v,w.cell? ⟨b,o+i*sz+j,none⟩=some v∧cd κ w v d):
  ∃news:List Value,bP κ w news ys.flatten∧news.length=ys.length*sz∧∀j u,news[j]? =some u→w.cell? ⟨b,o+j,none⟩=some u:=by
 have hex:∀k,∃v,∀i y j d,k=i*sz+j→ys[i]? =some y→y[j]? =some d→w.cell? ⟨b,o+k,none⟩=some v∧cd κ w v d:=fun k=>by
  by_cases Ym:∃i y j d,k=i*sz+j∧ys[i]? =some y∧y[j]? =some d
  ·obtain ⟨i,y,j,d,rfl,h1,h2⟩:=Ym
   obtain ⟨v,g1,g2⟩:=hc i y j d h1 h2
   refine ⟨v,fun i' y' j' d' he lT h2'=>?_⟩
   have hj:j<sz:=by rw [←hy y (List.mem_of_getElem? h1)]; exact (List.getElem?_eq_some_iff.1 h2).1
   have Bj:j'<sz:=by rw [←hy y' (List.mem_of_getElem? lT)]; exact (List.getElem?_eq_some_iff.1 h2').1
   have hdiv:i=i':=by
    have a1:(i*sz+j) / sz=i:=by rw [Nat.mul_comm,Nat.mul_add_div h_,Nat.div_eq_of_lt hj,Nat.add_zero]
    have a2:(i'*sz+j') / sz=i':=by rw [Nat.mul_comm,Nat.mul_add_div h_,Nat.div_eq_of_lt Bj,Nat.add_zero]
    rw [←a1,←a2,he]
   subst hdiv
   have hjj:j=j':=by omega
   subst hjj
   rw [h1] at lT
   cases lT
   rw [h2] at h2'
   cases h2'
   exact ⟨by rw [←Nat.add_assoc]; exact g1,g2⟩
  ·exact ⟨undef,fun i y j d he h1 h2=>absurd ⟨i,y,j,d,he,h1,h2⟩ Ym⟩
 obtain ⟨f,hf⟩:=Classical.axiomOfChoice hex
 have Yi:ys.flatten.length=ys.length*sz:=dX hy
 have iM:∀k (d:D),ys.flatten[k]? =some d→w.cell? ⟨b,o+k,none⟩=some (f k)∧cd κ w (f k) d:=fun k d hd=>by
  have Ym:k<ys.length*sz:=by rw [←Yi]; exact (List.getElem?_eq_some_iff.1 hd).1
  have kD:k / sz<ys.length:=by rw [Nat.div_lt_iff_lt_mul h_]; exact Ym
  have hlen:=hy _ (List.getElem_mem kD)
  have Bj:k % sz<ys[k / sz].length:=by rw [hlen]; exact Nat.mod_lt _ h_
  have hdm:k=k / sz*sz+k % sz:=by rw [Nat.mul_comm]; exact (Nat.div_add_mod k sz).symm
  have h2:=eR hy (i:=k / sz) (j:=k % sz) (x:=ys[k / sz]) (d:=ys[k / sz][k % sz]) (by simp [kD]) (by simp [Bj])
  rw [←hdm,hd] at h2
  cases h2
  obtain ⟨g1,g2⟩:=hf k (k / sz) ys[k / sz] (k % sz) _ hdm (List.getElem?_eq_getElem kD) (List.getElem?_eq_getElem Bj)
  exact ⟨g1,g2⟩
 have pt:bP κ w ((List.range (ys.length*sz)).map f) ys.flatten:=bP.nS (by simp [Yi]) fun k d hd=>by
  have Ym:k<ys.length*sz:=by rw [←Yi]; exact (List.getElem?_eq_some_iff.1 hd).1
  exact ⟨f k,by simp [Ym],(iM k d hd).2⟩
 refine ⟨(List.range (ys.length*sz)).map f,pt,by simp,fun j u hu=>?_⟩
 have hj:j<ys.length*sz:=by
  have:=(List.getElem?_eq_some_iff.1 hu).1
  simpa using this
 have hd:ys.flatten[j]? =some (ys.flatten[j]'(by rw [Yi]; exact hj)):=by simp [Yi,hj]
 rw [(iM j _ hd).1]
 simpa [hj] using hu
theorem BO [aN] (hi:Inv κ h w) {tx:TypeId} {sz:Nat} (h_:0<sz) {u:Value} {x:D} (r:cd κ w u x) {ys:List (List D)} (e:(match x with | .str b=>some (eP b) | x=>cO h x)=some ys)
  (hk:(∃e',P.underlying tx=some (.slice e')∧(∀b,x≠.str b))∨(P.underlying tx=some .string∧sz=1∧∃b,x=.str b)) (hy:∀y∈ys,y.length=sz∧y.all cf=true):
  ∃news,Src P sz tx u ys.length news w∧bP κ w news ys.flatten:=by
 rcases hk with ⟨e',hk,Wk⟩ | ⟨hk,rfl,b,rfl⟩
 ·have e1:cO h x=some ys:=by
   cases x with
   | str b=>exact absurd rfl (Wk b)
   | _=>exact e
  rcases pD hi r e1 (fun y hh=>(hy y hh).1) h_ with ⟨jM,ba,cap,rfl,hba⟩ | ⟨b,o,cap,rfl,hc⟩
  ·subst jM
   refine ⟨[],?_,.nil⟩
   cases ba with
   | none=>
    have:=hba rfl
    subst this
    exact Src.ahd w hk 0
   | some ad=>exact Src.ofSlice w hk ad 0 cap [] (by simp) (by simp) (by simp)
  ·obtain ⟨news,n1,n2,n3⟩:=pT (fun y hh=>(hy y hh).1) h_ hc
   refine ⟨news,Src.ofSlice w hk ⟨b,o,none⟩ ys.length cap news n2 (fun j u hu=>by rw [dQ]; exact n3 j u hu) ?_,n1⟩
   refine vr n1 (List.all_eq_true.2 fun d hd=>?_)
   obtain ⟨y,hy1,hy2⟩:=List.mem_flatten.1 hd
   exact List.all_eq_true.1 (hy y hy1).2 d hy2
 ·cases e
  cases r with
  | str _ hs=>
  have hlen:(⟨b.toArray⟩:ByteArray).size=(eP b).length:=by simp [eP,pg]
  refine ⟨Lk ⟨b.toArray⟩,hlen▸Src.ofString w hk _,?_⟩
  have:(eP b).flatten=b.map fun c=>.int .u8 (c.toNat:Int):=by
   clear hlen hs hy
   induction b with
   | nil=>rfl
   | cons c b ih=>simp [eP] at ih ⊢; exact ih
  rw [this]
  simp only [Lk]
  clear hlen hs hy this
  induction b with
  | nil=>exact .nil
  | cons c b ih=>exact .cons (.int _ _) ih
theorem Ev.drew {κ:cp} {h:aa} {w:World}:Ev κ h w κ h w.drew:=Ev.of_heap rfl rfl rfl rfl
theorem qz [aN] (hi:Inv κ h w) {t tx ty e:TypeId} {sz jK:Nat} {z:D} (ht:P.underlying t=some (.slice e)) (hs:bT P e=some sz) (hb:gI P e=some jK) (hz:fQ P e=some z) (RA:(bZ z).length=sz) (h_:0<sz)
  {s u:Value} {ds x:D} (rs:cd κ w s ds) {ys:List (List D)} (hy:∀y∈ys,y.length=sz∧y.all cf=true) (Db:0<jK) {news:List Value} (lA:Src P sz tx u ys.length news w) (Og:bP κ w news ys.flatten)
  (hk:match ds with
    | .bg=>(ys=[]→K .bg h)∧ys.length*jK≤140737488355328∧(ys≠[]→∀id,h.f id=none→K (.row id (ys.length+2) 0 ys.length) (h.set id (.row sz (ys.length+2) ys false)))
    | .row r aR off len=>match h.f r with
     | some (.row gS bW xs false)=>aR=bW∧gS=sz∧off=0∧len=xs.length∧(xs.length+ys.length)*jK≤140737488355328∧
       K (.row r (aR+ys.length) 0 (len+ys.length)) (h.set r (.row sz (aR+ys.length) (xs++ys) false))
     | _=>False
    | _=>False):
  ∃v w' κ' h' d,(Builtin.append_ #[t,tx] ty #[s,u]).run P w=.ok v w'∧K d h'∧cd κ' w' v d∧Inv κ' h' w'∧Ev κ h w κ' h' w':=by
 obtain ⟨i,i1,i2⟩:=ot hs
 obtain ⟨zv,z1,z2,i',i3,i4⟩:=ja hz κ w
 rw [i1] at i3
 cases i3
 have We:i.bytes=jK:=by
  unfold gI at hb
  rw [i1] at hb
  simpa using hb
 subst i2
 have ZZ:zv.cells.size=i.size:=by
  have:=z2.length
  simp at this
  omega
 have tf:news.length=ys.length*i.size:=lA.Su
 cases ds with
 | bg=>
  cases rs
  obtain ⟨k1,k2,k3⟩:=hk
  by_cases jM:ys=[]
  ·subst jM
   simp only [List.length_nil] at lA
   refine ⟨.slice none 0 0,w,κ,h,.bg,?_,k1 rfl,.bg,hi,Ev.refl κ h w⟩
   have LG:(Builtin.firstCells i.size 0 u).run P w=.ok news.toArray w:=lA.cells
   rcases lA.kind with ⟨e',hk⟩ | hk<;>simp [Builtin.append_,run_underlying ht,run_underlying hk,sizeOf,typeInfo,i1,lA.len,LG]
  ·have hp:0<ys.length:=List.length_pos_iff.2 jM
   have hle:ys.length≤140737488355328:=Nat.le_trans (Nat.le_mul_of_pos_right _ Db) k2
   have e_:=gG (P:=P) w t tx ty e i zv ht i1 i4 none 0 0 [] (by rw [run_firstCells_none]) u ys.length news lA (by omega) (by omega) (by
    rw [We,Nat.zero_add]
    exact growslice_fits (by omega) k2)
   simp only [Nat.zero_add,List.nil_append] at e_
   have dY:=grownCap_ge w ys.length 0 e
   have Dc:=grownCap_le_maxLen w ys.length 0 e (by simp only [maxLen]; omega)
   simp only [maxLen] at Dc
   have kD:Inv κ h w.drew:=hi.of_heap rfl
   have Oh:=Og.mono (Le.of_heap (κ:=κ) (w:=w) (w':=w.drew) rfl)
   obtain ⟨κ',h',d,a1,a2,a3,a4⟩:=p_ (K:=K) kD e (cs:=news.toArray++Builtin.zeroCells zv.cells (grownCap w ys.length 0 e - ys.length)) (xs:=ys) (sz:=i.size) (cap:=grownCap w ys.length 0 e)
    (fun y hh=>(hy y hh).1) dY Dc (by
     simp only [Array.size_append,List.size_toArray,size_zeroCells,tf,ZZ]
     rw [←Nat.add_mul,Nat.add_sub_cancel' dY]; exact Nat.le_refl _)
    (fun i1 x j d hx hj=>by
     obtain ⟨v,g1,g2⟩:=Oh.get _ d (eR (fun y hh=>(hy y hh).1) hx hj)
     refine ⟨v,?_,g2⟩
     have hZ:=(List.getElem?_eq_some_iff.1 g1).1
     rw [Array.getElem?_append_left (by simpa using hZ)]
     simpa using g1)
    (k3 jM)
   exact ⟨_,_,κ',h',d,e_,a1,a2,a3,Ev.drew.trans a4⟩
 | row r aR off len=>
  simp only at hk
  split at hk
  ·ab gS bW xs ho
   obtain ⟨k1,k2,k3,k4,k5,k6⟩:=hk
   subst k1 k2 k3 k4
   cases rs with
   | row hl hv hn dY ha lI=>
   ab cap p ad
   obtain ⟨p',hp,hr⟩:=hi.obj _ _ ho
   rw [hl] at hp
   cases hp
   obtain ⟨h1,lT,h2,h3,h4,h5,Bi,h6,cs,el,h7,h8,h9⟩:=hr
   by_cases jM:ys=[]
   ·subst jM
    simp only [List.length_nil,Nat.add_zero,List.append_nil] at k6 lA
    have Ok:h.set r (.row i.size aR xs false)=h:=aa.ext fun q=>by
     simp only [aa.dN]
     split
     ·ab hq; subst hq; exact ho.symm
     ·rfl
    rw [Ok] at k6
    refine ⟨.slice (some ad) xs.length cap,w,κ,h,_,?_,k6,.row hl hv hn dY ha lI,hi,Ev.refl κ h w⟩
    have LG:(Builtin.firstCells i.size 0 u).run P w=.ok news.toArray w:=lA.cells
    have hnn:news=[]:=List.eq_nil_of_length_eq_zero (by simpa using tf)
    subst hnn
    rcases lA.kind with ⟨e',hk⟩ | hk<;>simp [Builtin.append_,run_underlying ht,run_underlying hk,sizeOf,typeInfo,i1,lA.len,LG,dY,storeCells]
   ·have Ry:0<ys.length:=List.length_pos_iff.2 jM
    have hle:xs.length+ys.length≤140737488355328:=Nat.le_trans (Nat.le_mul_of_pos_right _ Db) k5
    have qP:∀y∈xs++ys,y.length=i.size:=fun y hh=>by
     rcases List.mem_append.1 hh with hh | hh
     ·exact h6 y hh
     ·exact (hy y hh).1
    by_cases qO:xs.length+ys.length≤cap
    ·-- there is room: in place
     rcases ha h1 with qN | ⟨p3,kR⟩
     ·omega
     ·simp only [Nat.zero_mul,Nat.add_zero,Nat.zero_add] at p3 kR
      subst p3
      have Gs:p.base+(xs.length+ys.length)*i.size≤cs.size:=by
       have:(xs.length+ys.length)*i.size≤p.cap*i.size:=Nat.mul_le_mul_right _ (by omega)
       omega
      rw [Nat.add_mul] at Gs
      have e_:=jQ (P:=P) (w:=w) (ty:=ty) ht i1 h7 lA qO (off:=p.base) (by omega)
      let xH:Array Value:=(cs.toList.take (p.base+xs.length*i.size)++news++cs.toList.drop (p.base+xs.length*i.size+news.length)).toArray
      have le:Le κ w κ (w.setRow p.blk xH):=sT hi ⟨r,_,p,ho,rfl,hl,mg.self⟩ xH
      let p':Place:={ p with aR:=aR+ys.length,f9:=[],kV:=by simp }
      have Ia:Le κ w (κ.put r p') (w.setRow p.blk xH):=by
       refine ⟨fun b hb=>⟨hb,(le.gJ b hb).2⟩,fun q pq hq=>?_⟩
       by_cases Ue:q=r
       ·subst Ue
        rw [hl] at hq
        cases hq
        exact ⟨p',by simp [cp.put],by simp [p',h1],fun e=>absurd (by simpa [p',h1] using e) jM,qx.OI (by omega) rfl⟩
       ·exact ⟨pq,by simp [cp.put,Ue,hq],Nat.le_refl _,fun _=>rfl,qx.refl pq⟩
      have Wm:gf (κ.put r p') (w.setRow p.blk xH) p' (.row i.size (aR+ys.length) (xs++ys) false):=by
       refine ⟨rfl,by omega,h2,fun e=>(by cases e),fun _=>h4 rfl,by simp [p']; omega,Bi,qP,xH,el,setRow_heap w p.blk cs _ el (0,0) h7,?_,fun q x j d hx hj=>?_⟩
       ·simp only [xH,p',List.size_toArray,List.length_append,List.length_take,List.length_drop,Array.length_toList]
        omega
       ·have hZ:p.base+xs.length*i.size+news.length≤cs.toList.length:=by simp; omega
        simp only [xH,List.getElem?_toArray]
        rw [ix _ _ _ _ hZ]
        have Bj:j<i.size:=by rw [←qP x (List.mem_of_getElem? hx)]; exact (List.getElem?_eq_some_iff.1 hj).1
        by_cases hq:q<xs.length
        ·rw [List.getElem?_append_left hq] at hx
         obtain ⟨v,g1,g2⟩:=h9 _ _ _ _ hx hj
         have:q*i.size+i.size≤xs.length*i.size:=by
          calc q*i.size+i.size=(q+1)*i.size:=by rw [Nat.add_mul,Nat.one_mul]
           _≤xs.length*i.size:=Nat.mul_le_mul_right _ hq
         rw [if_neg (by simp only [p']; omega)]
         exact ⟨v,by simpa using g1,g2.mono Ia⟩
        ·rw [List.getElem?_append_right (by omega)] at hx
         obtain ⟨v,g1,g2⟩:=Og.get _ d (eR (fun y hh=>(hy y hh).1) hx hj)
         have Wj:=(List.getElem?_eq_some_iff.1 g1).1
         have hqq:q*i.size=xs.length*i.size+(q - xs.length)*i.size:=by rw [←Nat.add_mul]; congr 1; omega
         simp only [p']
         rw [if_pos (by omega)]
         refine ⟨v,?_,g2.mono Ia⟩
         rw [←g1]
         congr 1
         omega
      obtain ⟨c1,c2⟩:=Inv.change (p':=p') hi ho hl rfl (o':=.row i.size (aR+ys.length) (xs++ys) false) rfl (w':=w.setRow p.blk xH) (by simp) (by have:=hi.ij r p hl; simpa [p'] using this) (.inl rfl) (by simp [p',h1]) (fun e=>absurd (by simpa [p',h1] using e) jM) (fun e=>by omega) rfl rfl rfl (fun b _ hb=>setRow_other w p.blk b _ hb) Wm
      refine ⟨_,_,_,_,_,e_,k6,?_,c1,c2⟩
      exact .row (p:=p') (by simp [cp.put]) (Nat.le_refl _) (by omega) qO (fun _=>.inr ⟨by simp [p'],by simp [p']; omega⟩) (by simp [p'])
    ·-- there is none: a new block
     have kD:Inv κ h w.drew:=hi.of_heap rfl
     have Z7:Le κ w κ w.drew:=Le.of_heap rfl
     have hold:∃kH:List Value,(Builtin.firstCells i.size xs.length (.slice (some ad) xs.length cap)).run P w.drew=.ok kH.toArray w.drew∧bP κ w kH xs.flatten:=by
      rcases ha h1 with qN | ⟨p3,kR⟩
      ·have Wx:xs=[]:=List.eq_nil_of_length_eq_zero (by omega)
       subst Wx
       exact ⟨[],by rw [run_firstCells_some w.drew i.size _ ad _ cap [] (by simp) (by simp)],.nil⟩
      ·simp only [Nat.zero_mul,Nat.add_zero] at p3
       subst p3
       obtain ⟨kH,n1,n2,n3⟩:=pT (κ:=κ) (w:=w) (b:=p.blk) (o:=p.base) h6 h_ fun q y j d hq hj=>by
        obtain ⟨v,g1,g2⟩:=h9 q y j d hq hj
        exact ⟨v,by rw [cell_of_row w _ _ cs el _ h7]; exact g1,g2⟩
       exact ⟨kH,run_firstCells_some w.drew i.size _ _ _ cap kH n2 (fun j v hv=>by rw [dQ]; exact n3 j v hv),n1⟩
     obtain ⟨kH,o1,o2⟩:=hold
     have ZQ:kH.length=xs.length*i.size:=by rw [o2.length,dX h6]
     have e_:=gG (P:=P) w t tx ty e i zv ht i1 i4 (some ad) xs.length cap kH o1 u ys.length news lA (by omega) (by omega) (by
      rw [We]
      exact growslice_fits (by omega) k5)
     have Sb:=grownCap_ge w (xs.length+ys.length) cap e
     have Wi:=grownCap_le_maxLen w (xs.length+ys.length) cap e (by simp only [maxLen]; omega)
     simp only [maxLen] at Wi
     generalize grownCap w (xs.length+ys.length) cap e=gc at e_ Sb Wi
     have Oh:=(o2.append Og).mono Z7
     rw [←List.flatten_append] at Oh
     let xH:Array Value:=(kH++news).toArray++Builtin.zeroCells zv.cells (gc - (xs.length+ys.length))
     let p':Place:={ blk:=w.heap.size,base:=0,aR:=aR+ys.length,cap:=gc,sz:=i.size,rc:=none }
     have Ia:Le κ w (κ.put r p') (w.drew.alloc (.cells xH e)):=by
      refine ⟨fun b hb=>⟨hb,heap_alloc_old w.drew _ (hi.fl b hb)⟩,fun q pq hq=>?_⟩
      by_cases Ue:q=r
      ·subst Ue
       rw [hl] at hq
       cases hq
       exact ⟨p',by simp [cp.put],by simp [p',h1],fun e=>absurd (by simpa [p',h1] using e) jM,qx.OI (by omega) rfl⟩
      ·exact ⟨pq,by simp [cp.put,Ue,hq],Nat.le_refl _,fun _=>rfl,qx.refl pq⟩
     have Oi:=(o2.append Og).mono Ia
     rw [←List.flatten_append] at Oi
     have Wm:gf (κ.put r p') (w.drew.alloc (.cells xH e)) p' (.row i.size (aR+ys.length) (xs++ys) false):=by
      refine ⟨rfl,by omega,rfl,fun e=>(by cases e),fun _ hx=>?_,by simp [p']; exact Sb,Wi,qP,xH,e,dq w.drew _,?_,fun q x j d hx hj=>?_⟩
      ·have:=hi.fl _ hx
       simp [p'] at this
      ·simp only [xH,p',Array.size_append,List.size_toArray,List.length_append,size_zeroCells,ZQ,tf,ZZ]
       rw [←Nat.add_mul,←Nat.add_mul,Nat.add_sub_cancel' Sb,Nat.zero_add]
       exact Nat.le_refl _
      ·obtain ⟨v,g1,g2⟩:=Oi.get _ d (eR qP hx hj)
       refine ⟨v,?_,g2⟩
       have hZ:=(List.getElem?_eq_some_iff.1 g1).1
       simp only [p',xH,Nat.zero_add]
       rw [Array.getElem?_append_left (by simpa using hZ)]
       simpa using g1
     obtain ⟨c1,c2⟩:=Inv.change (p':=p') hi ho hl rfl (o':=.row i.size (aR+ys.length) (xs++ys) false) rfl (w':=w.drew.alloc (.cells xH e)) (by simp) (by simp [p']) (.inr (Nat.le_refl _)) (by simp [p',h1]) (fun e=>absurd (by simpa [p',h1] using e) jM) (fun e=>by omega) rfl rfl rfl
      (fun b hb _=>heap_alloc_old w.drew _ hb) Wm
     refine ⟨_,_,_,_,_,e_,k6,?_,c1,c2⟩
     exact .row (p:=p') (by simp [cp.put]) (Nat.le_refl _) (by omega) Sb (fun _=>.inr ⟨by simp [p'],by simp [p']⟩) (by simp [p'])
  ·exact hk.elim
 | _=>exact hk.elim
end Go.Proofs.YtpklkpkfgmoghaaGreatDoor.Zz
