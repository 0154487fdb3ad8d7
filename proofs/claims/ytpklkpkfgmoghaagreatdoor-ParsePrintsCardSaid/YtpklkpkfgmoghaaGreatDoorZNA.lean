/- What is handed to others; calls; all instructions. -/
import Derived.Test.YtpklkpkfgmoghaaGreatDoorZN
set_option linter.unnecessarySimpa false
set_option linter.unusedVariables false
set_option linter.unusedSimpArgs false
namespace Go.Proofs.YtpklkpkfgmoghaaGreatDoor.Zz
variable {P:Program} {κ:cp} {h:aa} {w:World} {σ:Fr} {n:Nat} {a:Act} {K E:D→aa→Prop}
theorem qJ (h:aa) (r q:Nat):(eB h r).f q=if q=r then (match h.f r with | some (.row sz aR xs _)=>some (.row sz aR xs true) | o=>o) else h.f q:=by
 unfold eB
 by_cases e:q=r
 ·subst e
  rw [if_pos rfl]
  split
  ·ab sz aR xs fz ho
   simp [ho]
  ·ab xJ
   cases ho:h.f q with
   | none=>rfl
   | some o=>
    cases o with
    | row sz aR xs fz=>exact absurd ho (xJ sz aR xs fz)
    | _=>rfl
 ·rw [if_neg e]
  split
  ·simp [e]
  ·rfl
theorem s8 [aN] (hi:Inv κ h w) (r:Nat):∃κ',Inv κ' (eB h r) w∧Ev κ h w κ' (eB h r) w:=by
 cases ho:h.f r with
 | none=> 
  have:eB h r=h:=by simp [eB,ho]
  rw [this]; exact ⟨κ,hi,Ev.refl κ h w⟩
 | some o=>
  cases o with
  | row sz aR xs fz=>
   have e:eB h r=h.set r (.row sz aR xs true):=by simp [eB,ho]
   rw [e]
   cases fz with
   | true=>
    have:h.set r (.row sz aR xs true)=h:=aa.ext fun q=>by
     simp only [aa.dN]
     split
     ·ab hq; subst hq; exact ho.symm
     ·rfl
    rw [this]
    exact ⟨κ,hi,Ev.refl κ h w⟩
   | false=>
    obtain ⟨κ',h1,h2,_⟩:=hi.freeze ho
    exact ⟨κ',h1,h2⟩
  | _=>
   have:eB h r=h:=by simp [eB,ho]
   rw [this]; exact ⟨κ,hi,Ev.refl κ h w⟩
def gW:D→List Nat
 | .row r _ _ _=>[r]
 | .agg ds=>ds.flatMap fun d=>match d with | .row r _ _ _=>[r] | _=>[]
 | _=>[]
theorem V5 (h:aa) (d:D):fK h d=(gW d).foldl eB h:=by
 cases d with
 | row r aR off len=>rfl
 | agg ds=>
  simp only [fK,gW]
  induction ds generalizing h with
  | nil=>rfl
  | cons d ds ih=>
   simp only [List.foldl_cons,List.flatMap_cons,List.foldl_append]
   rw [ih]
   congr 1
   cases d<;>rfl
 | _=>rfl
theorem oV (h:aa) (ds:List D):ff h ds=(ds.flatMap gW).foldl eB h:=by
 unfold ff
 induction ds generalizing h with
 | nil=>rfl
 | cons d ds ih=>simp only [List.foldl_cons,List.flatMap_cons,List.foldl_append,ih,V5]
theorem vV [aN] (hi:Inv κ h w) (rs:List Nat):∃κ',Inv κ' (rs.foldl eB h) w∧Ev κ h w κ' (rs.foldl eB h) w:=by
 induction rs generalizing κ h with
 | nil=>exact ⟨κ,hi,Ev.refl κ h w⟩
 | cons r rs ih=>
  obtain ⟨κ1,h1,e1⟩:=s8 hi r
  obtain ⟨κ2,h2,e2⟩:=ih h1
  exact ⟨κ2,h2,e1.trans e2⟩
def dA (h h':aa):Prop:=∀r,(∀sz aR xs fz,h.f r=some (.row sz aR xs fz)→∃HZ,h'.f r=some (.row sz aR xs HZ)∧(fz=true→HZ=true))∧((∀sz aR xs fz,h.f r≠some (.row sz aR xs fz))→h'.f r=h.f r)
theorem dA.eB (h:aa) (r:Nat):dA h (eB h r):=fun q=>by
 rw [qJ]
 constructor
 ·intro sz aR xs fz ho
  by_cases e:q=r
  ·subst e; rw [if_pos rfl,ho]; exact ⟨true,rfl,fun _=>rfl⟩
  ·rw [if_neg e]; exact ⟨fz,ho,id⟩
 ·intro xJ
  by_cases e:q=r
  ·subst e
   rw [if_pos rfl]
   split
   ·ab sz aR xs fz ho; exact absurd ho (xJ _ _ _ _)
   ·rfl
  ·rw [if_neg e]
theorem dA.refl (h:aa):dA h h:=fun r=>⟨fun _ _ _ fz e=>⟨fz,e,id⟩,fun _=>rfl⟩
theorem dA.trans {h h1 h2:aa} (a:dA h h1) (b:dA h1 h2):dA h h2:=fun r=>by
 constructor
 ·intro sz aR xs fz e
  obtain ⟨Zr,e1,l1⟩:=(a r).1 sz aR xs fz e
  obtain ⟨fz2,e2,l2⟩:=(b r).1 sz aR xs Zr e1
  exact ⟨fz2,e2,fun x=>l2 (l1 x)⟩
 ·intro xJ
  have e1:=(a r).2 xJ
  rw [←e1]
  exact (b r).2 (by rw [e1]; exact xJ)
theorem dA.N1 (h:aa) (rs:List Nat):dA h (rs.foldl Zz.eB h):=by
 induction rs generalizing h with
 | nil=>exact .refl h
 | cons r rs ih=>exact (dA.eB h r).trans (ih _)
theorem tc (h:aa) (rs:List Nat) {r:Nat} (hr:r∈rs) {sz aR:Nat} {xs:List (List D)} {fz:Bool} (ho:h.f r=some (.row sz aR xs fz)):(rs.foldl eB h).f r=some (.row sz aR xs true):=by
 induction rs generalizing h fz with
 | nil=>cases hr
 | cons q rs ih=>
  simp only [List.foldl_cons]
  by_cases e:r∈rs
  ·obtain ⟨HZ,e1,_⟩:=((dA.eB h q) r).1 sz aR xs fz ho
   exact ih _ e e1
  ·have hq:r=q:=by
    cases hr with
    | head=>rfl
    | tail _ hh=>exact absurd hh e
   subst hq
   have e1:(eB h r).f r=some (.row sz aR xs true):=by rw [qJ,if_pos rfl,ho]
   obtain ⟨HZ,e2,l2⟩:=((dA.N1 (eB h r) rs) r).1 sz aR xs true e1
   rw [l2 rfl] at e2
   exact e2
def ko (h:aa):D→D
 | .bg=>.sl []
 | .row r aR off len=>match h.f r with
  | some (.row sz bW xs fz)=>if aR=bW∧off+len≤xs.length then .sl ((xs.drop off).take len) else .undef
  | _=>.undef
 | d=>d
theorem j_ (h:aa) (ds:List D):plain h (.agg ds)=.agg (ds.map (ko h)):=by
 simp only [plain]
 congr 1
theorem l6 (h:aa) (d:D) (hd:∀ds,d≠.agg ds):plain h d=ko h d:=by
 cases d<;>first | rfl | exact absurd rfl (hd _)
theorem tE {h h':aa} (s:dA h h') (d:D):ko h' d=ko h d:=by
 cases d with
 | row r aR off len=>
  simp only [ko]
  cases ho:h.f r with
  | none=>rw [(s r).2 (by simp [ho]),ho]
  | some o=>
   cases o with
   | row sz bW xs fz=>
    obtain ⟨HZ,e,_⟩:=(s r).1 sz bW xs fz ho
    rw [e]
   | _=>rw [(s r).2 (by simp [ho]),ho]
 | _=>rfl
theorem wG {h h':aa} (s:dA h h') (d:D):plain h' d=plain h d:=by
 cases d with
 | agg ds=>rw [j_,j_]; congr 1; exact List.map_congr_left fun d _=>tE s d
 | _=>rw [l6 _ _ (by simp),l6 _ _ (by simp)]; exact tE s _
theorem mC [aN] (hi:Inv κ h w) {v:Value} {d:D} (r:cd κ w v d) (hf:∀q aR off len sz bW xs fz,d=.row q aR off len→h.f q=some (.row sz bW xs fz)→fz=true):cd κ w v (ko h d):=by
 cases d with
 | bg=>cases r; exact .slnil fun _=>rfl
 | row q aR off len=>
  simp only [ko]
  split
  ·ab sz bW xs fz ho
   split
   ·ab hc
    obtain ⟨rfl,hle⟩:=hc
    have hfz:=hf q aR off len sz aR xs fz rfl ho
    subst hfz
    cases r with
    | row hl hv hn dY ha lI=>
    ab cap p ad
    obtain ⟨p',hp,hr⟩:=hi.obj _ _ ho
    rw [hl] at hp
    cases hp
    obtain ⟨h1,lT,h2,h3,h4,h5,Bi,h6,cs,el,h7,h8,h9⟩:=hr
    have hlen:len=((xs.drop off).take len).length:=by simp; omega
    rcases ha h1 with qN | ⟨p3,kR⟩
    ·have FL:len=0:=by omega
     subst FL
     have jM:(xs.drop off).take 0=[]:=by simp
     rw [jM]
     exact .slnil fun e=>by cases e
    ·subst p3
     refine .Ew (sz:=sz) hlen (fun i j=>cs.getD (p.base+off*p.sz+i*sz+j) undef) (by rw [←hlen]; exact hn) (by rw [←hlen]; exact dY) (fun y hy=>h6 y (List.mem_of_mem_drop (List.mem_of_mem_take hy))) (fun i y j d hy hd=>?_) (fun i y j d hy hd=>?_)
     ·rw [List.getElem?_take] at hy
      split at hy
      ·rw [List.getElem?_drop] at hy
       obtain ⟨v,g1,g2⟩:=h9 _ y j d hy hd
       refine ⟨h3 rfl,?_⟩
       rw [cell_of_row w _ _ cs el _ h7,h2]
       have:p.base+off*sz+i*sz+j=p.base+(off+i)*sz+j:=by rw [Nat.add_mul]; omega
       rw [this,g1]
       simp [Array.getD_eq_getD_getElem?,g1]
      ·cases hy
     ·rw [List.getElem?_take] at hy
      split at hy
      ·rw [List.getElem?_drop] at hy
       obtain ⟨v,g1,g2⟩:=h9 _ y j d hy hd
       have:p.base+off*p.sz+i*sz+j=p.base+(off+i)*sz+j:=by rw [h2,Nat.add_mul]; omega
       simp only [this,Array.getD_eq_getD_getElem?,g1]
       exact g2
      ·cases hy
   ·exact .undef _
  ·exact .undef _
 | _=>exact r
theorem zU [aN] (hi:Inv κ h w) {v:Value} {d:D} (r:cd κ w v d) (hf:∀q∈gW d,∀sz aR xs fz,h.f q=some (.row sz aR xs fz)→fz=true):cd κ w v (plain h d):=by
 cases d with
 | agg ds=>
  rw [j_]
  cases r with
  | agg hs hr=>
  refine .agg (by simpa using hs) fun i d hd=>?_
  simp only [List.getElem?_map,Option.map_eq_some_iff] at hd
  obtain ⟨d0,h1,rfl⟩:=hd
  refine mC hi (hr i d0 h1) fun q aR off len sz bW xs fz e ho=>?_
  subst e
  exact hf q (by simp only [gW,List.mem_flatMap]; exact ⟨_,List.mem_of_getElem? h1,by simp⟩) sz bW xs fz ho
 | row q aR off len=>
  rw [l6 _ _ (by simp)]
  exact mC hi r fun q' _ _ _ sz bW xs fz e ho=>by cases e; exact hf q (by simp [gW]) sz bW xs fz ho
 | _=>
  rw [l6 _ _ (by simp)]
  exact mC hi r fun _ _ _ _ _ _ _ _ e _=>by cases e
theorem iQ [aN] (hi:Inv κ h w) {vs:List Value} {ds:List D} (r:bP κ w vs ds):∃κ',Inv κ' (ff h ds) w∧Ev κ h w κ' (ff h ds) w∧bP κ' w vs (ds.map (plain h)):=by
 rw [oV]
 obtain ⟨κ',h1,e1⟩:=vV hi (ds.flatMap gW)
 refine ⟨κ',h1,e1,bP.nS (by simpa using r.length) fun i d hd=>?_⟩
 simp only [List.getElem?_map,Option.map_eq_some_iff] at hd
 obtain ⟨d0,h2,rfl⟩:=hd
 obtain ⟨v,g1,g2⟩:=r.get i d0 h2
 refine ⟨v,g1,?_⟩
 have same:=dA.N1 h (ds.flatMap gW)
 rw [←wG same]
 refine zU h1 (g2.mono (e1.le hi)) fun q hq sz aR xs fz ho=>?_
 cases nK:h.f q with
 | none=>rw [(same q).2 (by simp [nK]),nK] at ho; cases ho
 | some o=>
  cases o with
  | row gS bW xs' HZ=>
   have:=tc h (ds.flatMap gW) (List.mem_flatMap.2 ⟨d0,List.mem_of_getElem? h2,hq⟩) nK
   rw [this] at ho
   cases ho
   rfl
  | _=>rw [(same q).2 (by simp [nK]),nK] at ho; cases ho
theorem Inv.Xq [aN] (hi:Inv κ h w) {r sz aR:Nat} {xs xs':List (List D)} {fz:Bool} {p:Place} (ho:h.f r=some (.row sz aR xs fz)) (hp:κ.loc r=some p) (hr:gf κ w p (.row sz aR xs' fz)):
  Inv κ (h.set r (.row sz aR xs' fz)) w∧Ev κ h w κ (h.set r (.row sz aR xs' fz)) w:=by
 have back:∀i o,(h.set r (.row sz aR xs' fz)).f i=some o→∃o0,h.f i=some o0∧o0.live=o.live∧∀q,κ.loc i=some q→∀b,mg o q b→mg o0 q b:=fun i o e=>by
  simp only [aa.dN] at e
  split at e
  ·ab e1
   subst e1
   cases e
   exact ⟨_,ho,rfl,fun q _ b hb=>hb⟩
  ·exact ⟨o,e,rfl,fun _ _ _ hb=>hb⟩
 refine ⟨⟨hi.fl,hi.ij,hi.fresh,fun i o e=>?_,fun i j oi oj pi pj b ei ej li lj qi qj xY C_=>?_,hi.kG⟩,{ Ev.refl κ h w with own:=fun b _ hb=>?_,ids:=fun id q hq hn=>?_ }⟩
 ·simp only [aa.dN] at e
  split at e
  ·ab e1
   subst e1
   cases e
   exact ⟨p,hp,hr⟩
  ·exact hi.obj i o e
 ·obtain ⟨o1,a1,a2,a3⟩:=back i oi ei
  obtain ⟨o2,b1,b2,b3⟩:=back j oj ej
  exact hi.inj i j o1 o2 pi pj b a1 b1 (a2.trans li) (b2.trans lj) qi qj (a3 pi qi b xY) (b3 pj qj b C_)
 ·obtain ⟨i,o1,q,h1,h2,h3,h4⟩:=hb
  obtain ⟨o0,a1,a2,a3⟩:=back i o1 h1
  exact ⟨i,o0,q,a1,a2.trans h2,h3,a3 q h3 b h4⟩
 ·have:id≠r:=fun e=>by subst e; rw [ho] at hn; cases hn
  simp [this,hn]
theorem Bw {α β:Type} {f:α→β} {l:List (List α)} {i j:Nat} {x:List β} {d:β} (hx:(l.map (List.map f))[i]? =some x) (hj:x[j]? =some d):∃y e,l[i]? =some y∧y[j]? =some e∧f e=d:=by
 rw [List.getElem?_map,Option.map_eq_some_iff] at hx
 obtain ⟨y,hy,rfl⟩:=hx
 rw [List.getElem?_map,Option.map_eq_some_iff] at hj
 obtain ⟨e,he,rfl⟩:=hj
 exact ⟨y,e,hy,he,rfl⟩
theorem BG [aN] (hi:Inv κ h w) {v:Value} {d:D} (r:cd κ w v d):∃κ',Inv κ' (Bc h d) w∧Ev κ h w κ' (Bc h d) w∧cd κ' w v (qc h d):=by
 have one:∃κ',Inv κ' (fK h d) w∧Ev κ h w κ' (fK h d) w∧cd κ' w v (plain h d):=by
  obtain ⟨κ',a1,a2,a3⟩:=iQ hi (.cons r .nil:bP κ w [v] [d])
  refine ⟨κ',a1,a2,?_⟩
  cases a3 with
  | cons a _=>exact a
 cases d with
 | row q aR off len=>
  simp only [Bc,qc]
  cases ho:h.f q with
  | none=>exact ⟨κ,hi,Ev.refl κ h w,.undef _⟩
  | some o=>
   cases o with
   | row sz bW xs fz=>
    simp only
    obtain ⟨p,hp,hr⟩:=hi.obj q _ ho
    obtain ⟨κ1,i1,Bb,same,Gp⟩:∃κ1,Inv κ1 (ff h xs.flatten) w∧Ev κ h w κ1 (ff h xs.flatten) w∧dA h (ff h xs.flatten)∧∀(v:Value) (d:D),d∈xs.flatten→cd κ w v d→cd κ1 w v (plain h d):=by
     rw [oV]
     obtain ⟨κ',h1,e1⟩:=vV hi (xs.flatten.flatMap gW)
     have same:=dA.N1 h (xs.flatten.flatMap gW)
     refine ⟨κ',h1,e1,same,fun v d hd rv=>?_⟩
     rw [←wG same]
     refine zU h1 (rv.mono (e1.le hi)) fun q hq sz aR xs' fz Yo=>?_
     cases nK:h.f q with
     | none=>rw [(same q).2 (by simp [nK]),nK] at Yo; cases Yo
     | some o=>
      cases o with
      | row gS bW alw HZ=>
       have:=tc h (xs.flatten.flatMap gW) (List.mem_flatMap.2 ⟨d,hd,hq⟩) nK
       rw [this] at Yo
       cases Yo
       rfl
      | _=>rw [(same q).2 (by simp [nK]),nK] at Yo; cases Yo
    obtain ⟨Zr,xZ,_⟩:=(same q).1 sz bW xs fz ho
    obtain ⟨p1,hp1,Wq⟩:=i1.obj q _ xZ
    have Wn:p1=p:=by
     obtain ⟨p',k1,k2,k3,_⟩:=Bb.loc q p hp
     rw [hp1] at k1
     cases k1
     exact k3 (by have:=hr.1; have:=Wq.1; omega)
    subst Wn
    obtain ⟨i2,ev2⟩:=i1.Xq (xs':=xs.map (List.map (plain h))) xZ hp1 (by
     obtain ⟨h1,lT,h2,h3,h4,h5,Bi,h6,cs,el,h7,h8,h9⟩:=Wq
     obtain ⟨_,_,_,_,_,_,_,_,cs0,el0,g7,_,g9⟩:=hr
     rw [g7] at h7
     cases h7
     refine ⟨h1,lT,h2,h3,h4,by simpa using h5,Bi,fun x hx=>?_,cs,el,g7,h8,fun i x j d hx hj=>?_⟩
     ·obtain ⟨y,hy,rfl⟩:=List.mem_map.1 hx
      simpa using h6 y hy
     ·obtain ⟨y,e,hy,he,rfl⟩:=Bw hx hj
      obtain ⟨v,k1,k2⟩:=g9 i y j e hy he
      exact ⟨v,k1,Gp v e (List.mem_flatten.2 ⟨y,List.mem_of_getElem? hy,List.mem_of_getElem? he⟩) k2⟩)
    obtain ⟨κ3,i3,ev3⟩:=s8 i2 q
    have e3:eB ((ff h xs.flatten).set q (.row sz bW (xs.map (List.map (plain h))) Zr)) q=(ff h xs.flatten).set q (.row sz bW (xs.map (List.map (plain h))) true):=by
     simp [eB,aa.set_set]
    rw [e3] at i3 ev3
    have ev:=(Bb.trans ev2).trans ev3
    refine ⟨κ3,i3,ev,?_⟩
    have:=mC i3 (r.mono (ev.le hi)) fun q' _ _ _ sz2 alu xs2 fz2 e Uc=>by
     cases e
     simp at Uc
     exact Uc.2.2.2▸rfl
    simpa [ko] using this
   | _=>exact ⟨κ,hi,Ev.refl κ h w,.undef _⟩
 | _=>exact one
theorem gp {f:FuncId} {args:Array Value} (hc:fi P f=true) (w:World):(callFunc f args).run P w=.ok (.enter f args) w:=by
 unfold fi at hc
 split at hc
 ·ab fn Yj
  simp only [Bool.and_eq_true,Bool.not_eq_true'] at hc
  obtain ⟨h1,h2⟩:=hc
  have h3:fn.body.isNone=false:=by
   cases hb:fn.body<;>simp [hb] at h2 ⊢
  simp only [callFunc,Sem.run_bind,run_program,Result.andThen,Yj]
  rw [if_neg (by rw [h1]; simp),if_neg (by rw [h3]; simp)]
  rfl
 ·cases hc
theorem Calls.toA [aN] {f:FuncId} {vs:Array Value} {args:List D} {R:dF→aa→Prop} (hc:aQ P f args h R) (hi:Inv κ h w) (r:bP κ w vs.toList args):
  Calls P f vs w fun e w'=>∃o h' κ',R o h'∧jH κ' w' o e∧Inv κ' h' w'∧Ev κ h w κ' h' w':=hc.2 κ w vs hi r
end Go.Proofs.YtpklkpkfgmoghaaGreatDoor.Zz
namespace Go.Proofs.YtpklkpkfgmoghaaGreatDoor.Zz
variable {P:Program} {κ:cp} {h:aa} {w:World} {K E:D→aa→Prop}
theorem kM.write {κ':cp} {b sz cap m:Nat} {xs:List (List D)} {cs:Array Value} {ty:TypeId} {news:List Value} (r:kM κ w b sz cap xs) (hb:w.heap[b]? =some (.cells cs ty (0,0))) (mU:∀x∈xs,x.length=sz)
    (hm:xs.length≤m) (uE:m*sz+news.length≤cs.toList.length) (le:Le κ w κ' (w.setRow b (cs.toList.take (m*sz)++news++cs.toList.drop (m*sz+news.length)).toArray)):
    kM κ' (w.setRow b (cs.toList.take (m*sz)++news++cs.toList.drop (m*sz+news.length)).toArray) b sz cap xs:=by
  obtain ⟨cs0,t0,h1,h2,h3⟩:=r
  rw [hb] at h1
  cases h1
  refine ⟨_,ty,setRow_heap w b cs _ ty (0,0) hb,?_,fun i x j d hx hj=>?_⟩
  · simp only [List.size_toArray,List.length_append,List.length_take,List.length_drop,Array.length_toList] at uE ⊢
    omega
  · obtain ⟨v,g1,g2⟩:=h3 i x j d hx hj
    refine ⟨v,?_,g2.mono le⟩
    have Bj:j<sz:=by rw [←mU x (List.mem_of_getElem? hx)]; exact (List.getElem?_eq_some_iff.1 hj).1
    have kD:=(List.getElem?_eq_some_iff.1 hx).1
    have:i*sz+sz≤m*sz:=by
      calc i*sz+sz=(i+1)*sz:=by rw [Nat.add_mul,Nat.one_mul]
        _≤m*sz:=Nat.mul_le_mul_right _ (by omega)
    simp only [List.getElem?_toArray]
    rw [ix _ _ _ _ uE,if_neg (by omega)]
    simpa using g1
theorem DI [aN] (hi:Inv κ h w) (t:TypeId) {cs:Array Value} {xs:List (List D)} {sz cap:Nat} (mU:∀x∈xs,x.length=sz) (dY:xs.length≤cap) (H3:cap≤9223372036854775807) (uE:cap*sz≤cs.size)
    (hr:∀(i:Nat) (x:List D) (j:Nat) (d:D),xs[i]? =some x→x[j]? =some d→∃v,cs[i*sz+j]? =some v∧cd κ w v d)
    (hk:∀id,h.f id=none→K (.row id 2 0 xs.length) (h.set id (.gb sz 2 xs []))):
    ∃κ' h' d,K d h'∧cd κ' (w.alloc (.cells cs t)) (.slice (some ⟨w.heap.size,0,none⟩) xs.length cap) d∧Inv κ' h' (w.alloc (.cells cs t))∧Ev κ h w κ' h' (w.alloc (.cells cs t)):=by
  obtain ⟨id,fE,hf⟩:=hi.sB
  let p:Place:={ blk:=w.heap.size,base:=0,aR:=2,cap,sz,rc:=none }
  have le:=Le.alloc (κ:=κ) hi (.cells cs t) fE p
  obtain ⟨i1,e1⟩:=hi.alloc fE hf (.cells cs t) (.gb sz 2 xs []) p rfl rfl rfl ⟨rfl,Nat.le_refl _,rfl,fun hx=>by have:=hi.fl _ hx; simp [p] at this,rfl,dY,H3,mU,⟨cs,t,dq w _,by simpa [p] using uE,fun i x j d hx hj=>by
    obtain ⟨v,g1,g2⟩:=hr i x j d hx hj
    exact ⟨v,g1,g2.mono le⟩⟩,rfl,(by simp [p]),(by simp [p])⟩
  exact ⟨_,_,_,hk id hf,.row (p:=p) (by simp [cp.put]) (Nat.le_refl _) (by omega) dY (fun _=>.inr ⟨by simp [p],by simp [p]⟩) (by simp [p]),i1,e1⟩
def Place.grown (p:Place) (blk cap len:Nat):Place:=
  { blk,base:=0,aR:=p.aR+1,cap,sz:=p.sz,rc:=none,f9:=⟨p.aR,p.blk,p.cap,p.sz,len⟩::p.f9,kV:=by
      intro e he
      cases he with
      | head=>exact ⟨Nat.lt_succ_self _,rfl⟩
      | tail _ he=>exact ⟨Nat.lt_succ_of_lt (p.kV e he).1,(p.kV e he).2⟩ }
theorem qx.grown {p:Place} {blk cap len:Nat} (h2:2≤p.aR) (hb:p.base=0):qx p (p.grown blk cap len) where
  one:=fun e=>by omega
  lt:=fun e he hv=>by
    cases he with
    | head=>exact absurd hv (Nat.lt_irrefl _)
    | tail _ he=>exact he
  eq:=fun e he hv hn=>by
    cases he with
    | head=>exact ⟨hb,rfl,rfl,rfl⟩
    | tail _ he=>exact absurd hv (Nat.ne_of_lt (p.kV e he).1)
theorem xO [aN] (hi:Inv κ h w) {t tx ty e:TypeId} {sz jK:Nat} {z:D} (ht:P.underlying t=some (.slice e)) (hs:bT P e=some sz) (hb:gI P e=some jK) (hz:fQ P e=some z) (RA:(bZ z).length=sz) (h_:0<sz)
    {s u:Value} {ds x:D} (rs:cd κ w s ds) {ys:List (List D)} (hy:∀y∈ys,y.length=sz∧y.all cf=true) (Db:0<jK) {news:List Value} (lA:Src P sz tx u ys.length news w) (Og:bP κ w news ys.flatten) (jM:ys≠[])
    (hk:match ds with
       | .bg=>ys.length*jK≤140737488355328∧∀id,h.f id=none→K (.row id 2 0 ys.length) (h.set id (.gb sz 2 ys []))
       | .row r aR off len=>match h.f r with
         | some (.gb gS bW xs f9)=>aR=bW∧gS=sz∧off=0∧len=xs.length∧(xs.length+ys.length)*jK≤140737488355328∧
             K (.row r (aR+1) 0 (len+ys.length)) (h.set r (.gb sz (aR+1) (xs++ys) ((aR,len)::f9)))
         | _=>False
       | _=>False):
    ∃v w' κ' h' d,(Builtin.append_ #[t,tx] ty #[s,u]).run P w=.ok v w'∧K d h'∧cd κ' w' v d∧Inv κ' h' w'∧Ev κ h w κ' h' w':=by
  obtain ⟨i,i1,i2⟩:=ot hs
  obtain ⟨zv,z1,z2,i',i3,i4⟩:=ja hz κ w
  rw [i1] at i3
  cases i3
  have We:i.bytes=jK:=by
    unfold gI at hb
    rw [i1] at hb
    simpa using hb
  subst i2
  have ZZ:zv.cells.size=i.size:=by
    have:=z2.length
    simp at this
    omega
  have tf:news.length=ys.length*i.size:=lA.Su
  have Ry:0<ys.length:=List.length_pos_iff.2 jM
  cases ds with
  | bg=>
    cases rs
    obtain ⟨k2,k3⟩:=hk
    have hle:ys.length≤140737488355328:=Nat.le_trans (Nat.le_mul_of_pos_right _ Db) k2
    have e_:=gG (P:=P) w t tx ty e i zv ht i1 i4 none 0 0 [] (by rw [run_firstCells_none]) u ys.length news lA (by omega) (by omega) (by
      rw [We,Nat.zero_add]
      exact growslice_fits (by omega) k2)
    simp only [Nat.zero_add,List.nil_append] at e_
    have dY:=grownCap_ge w ys.length 0 e
    have Dc:=grownCap_le_maxLen w ys.length 0 e (by simp only [maxLen]; omega)
    simp only [maxLen] at Dc
    have kD:Inv κ h w.drew:=hi.of_heap rfl
    have Oh:=Og.mono (Le.of_heap (κ:=κ) (w:=w) (w':=w.drew) rfl)
    obtain ⟨κ',h',d,a1,a2,a3,a4⟩:=DI (K:=K) kD e (cs:=news.toArray++Builtin.zeroCells zv.cells (grownCap w ys.length 0 e - ys.length)) (xs:=ys) (sz:=i.size) (cap:=grownCap w ys.length 0 e)
      (fun y hh=>(hy y hh).1) dY Dc (by
        simp only [Array.size_append,List.size_toArray,size_zeroCells,tf,ZZ]
        rw [←Nat.add_mul,Nat.add_sub_cancel' dY]; exact Nat.le_refl _)
      (fun i1 x j d hx hj=>by
        obtain ⟨v,g1,g2⟩:=Oh.get _ d (eR (fun y hh=>(hy y hh).1) hx hj)
        refine ⟨v,?_,g2⟩
        have hZ:=(List.getElem?_eq_some_iff.1 g1).1
        rw [Array.getElem?_append_left (by simpa using hZ)]
        simpa using g1)
      k3
    exact ⟨_,_,κ',h',d,e_,a1,a2,a3,Ev.drew.trans a4⟩
  | row r aR off len=>
    simp only at hk
    split at hk
    · ab gS bW xs f9 ho
      obtain ⟨k1,k2,k3,k4,k5,k6⟩:=hk
      subst k1 k2 k3 k4
      cases rs with
      | row hl hv hn dY ha lI=>
      ab cap p ad
      obtain ⟨p',hp,hr⟩:=hi.obj _ _ ho
      rw [hl] at hp
      cases hp
      obtain ⟨h1,lT,h2,h4,h3,h5,Bi,h6,⟨cs,el,h7,h8,h9⟩,Ye,R5,Rt⟩:=hr
      have hle:xs.length+ys.length≤140737488355328:=Nat.le_trans (Nat.le_mul_of_pos_right _ Db) k5
      have qP:∀y∈xs++ys,y.length=i.size:=fun y hh=>by
        rcases List.mem_append.1 hh with hh | hh
        · exact h6 y hh
        · exact (hy y hh).1
      have htk:∀n,n≤xs.length→(xs++ys).take n=xs.take n:=fun n hn=>by rw [List.take_append_of_le_length hn]
      have close:∀(blk gc:Nat) (w':World),w.heap.size≤w'.heap.size→blk<w'.heap.size→(blk=p.blk∨w.heap.size≤blk)→w'.os=w.os→w'.tape=w.tape→w'.output=w.output→
          (∀b,b<w.heap.size→b≠p.blk→w'.heap[b]? =w.heap[b]?)→xs.length+ys.length≤gc→gc≤9223372036854775807→
          (∀κ',κ'=κ.put r (p.grown blk gc xs.length)→Le κ w κ' w'→kM κ' w' blk i.size gc (xs++ys)∧kM κ' w' p.blk i.size p.cap xs∧∀e∈p.f9,kM κ' w' e.blk i.size e.cap (xs.take e.len))→
          Inv (κ.put r (p.grown blk gc xs.length)) (h.set r (.gb i.size (aR+1) (xs++ys) ((aR,xs.length)::f9))) w'∧Ev κ h w (κ.put r (p.grown blk gc xs.length)) (h.set r (.gb i.size (aR+1) (xs++ys) ((aR,xs.length)::f9))) w':=fun blk gc w' q1 q2 q3 q4 q5 q6 q7 q8 q9 q10=>by
        have hle:Le κ w (κ.put r (p.grown blk gc xs.length)) w':=by
          refine ⟨fun b hb=>⟨hb,q7 b (hi.fl b hb) fun eb=>h4 (eb▸hb)⟩,fun q pq hq=>?_⟩
          by_cases Ue:q=r
          · subst Ue
            rw [hl] at hq
            cases hq
            exact ⟨p.grown blk gc xs.length,by simp [cp.put],Nat.le_succ _,fun e=>absurd e (Nat.succ_ne_self _),qx.grown (by omega) h3⟩
          · exact ⟨pq,by simp [cp.put,Ue,hq],Nat.le_refl _,fun _=>rfl,qx.refl pq⟩
        obtain ⟨r1,r2,r3⟩:=q10 _ rfl hle
        refine hi.uQ ho hl rfl (o':=.gb i.size (aR+1) (xs++ys) ((aR,xs.length)::f9)) rfl q1 q2 (fun b lI=>?_) (Nat.le_succ _) (fun e=>absurd e (Nat.succ_ne_self _)) (qx.grown (by omega) h3) q4 q5 q6 (fun b hb xJ=>q7 b hb fun eb=>xJ (eb▸mg.self)) ?_
        · rcases lI with lI | ⟨e,he,lI⟩
          · rcases q3 with q3 | q3
            · exact .inl (.inl (q3▸lI))
            · exact .inr (lI▸q3)
          · cases he with
            | head=>exact .inl (.inl lI)
            | tail _ he=>exact .inl (.inr ⟨e,he,lI⟩)
        · refine ⟨by simp [Place.grown,h1],by omega,h2,fun hx=>?_,rfl,by simpa [Place.grown] using q8,q9,qP,r1,?_,fun e he=>?_,?_⟩
          · rcases q3 with q3 | q3
            · exact h4 (q3▸hx)
            · have:=hi.fl _ hx
              simp only [Place.grown] at this
              omega
          · simp [Place.grown,Ye,h1]
          · cases he with
            | head=>exact ⟨by show 2≤p.aR; omega,by show p.aR<aR+1; omega,h2,h4,h5,Bi,by simp,by simpa using r2⟩
            | tail _ he=>
              obtain ⟨g1,g2,g3,g4,g5,g6,g7,g8⟩:=R5 e he
              exact ⟨g1,by omega,g3,g4,g5,g6,by simp; omega,by rw [htk _ g7]; exact r3 e he⟩
          · refine List.pairwise_cons.2 ⟨fun e he=>?_,Rt⟩
            obtain ⟨g1,g2,g3,g4,g5,g6,g7,g8⟩:=R5 e he
            exact ⟨(p.kV e he).1,g7⟩
      by_cases qO:xs.length+ys.length≤cap
      · -- there is room: in place
        rcases ha h1 with qN | ⟨p3,kR⟩
        · omega
        · simp only [Nat.zero_mul,Nat.add_zero,Nat.zero_add,h3] at p3 kR
          subst p3
          have Gs:(xs.length+ys.length)*i.size≤cs.size:=by
            have:(xs.length+ys.length)*i.size≤p.cap*i.size:=Nat.mul_le_mul_right _ (by omega)
            omega
          rw [Nat.add_mul] at Gs
          have e_:=jQ (P:=P) (w:=w) (ty:=ty) ht i1 h7 lA qO (off:=0) (by omega)
          simp only [Nat.zero_add] at e_
          have uE:xs.length*i.size+news.length≤cs.toList.length:=by simp; omega
          obtain ⟨c1,c2⟩:=close p.blk p.cap (w.setRow p.blk (cs.toList.take (xs.length*i.size)++news++cs.toList.drop (xs.length*i.size+news.length)).toArray) (by simp) (by simpa using hi.ij r p hl) (.inl rfl) rfl rfl rfl (fun b _ hb=>setRow_other w p.blk b _ hb) (by omega) Bi fun κ' hκ Ia=>by
            refine ⟨?_,kM.write ⟨cs,el,h7,h8,h9⟩ h7 h6 (Nat.le_refl _) uE Ia,fun e he=>?_⟩
            · refine ⟨_,el,setRow_heap w p.blk cs _ el (0,0) h7,?_,fun q x j d hx hj=>?_⟩
              · simp only [List.size_toArray,List.length_append,List.length_take,List.length_drop,Array.length_toList]
                omega
              · simp only [List.getElem?_toArray]
                rw [ix _ _ _ _ uE]
                have Bj:j<i.size:=by rw [←qP x (List.mem_of_getElem? hx)]; exact (List.getElem?_eq_some_iff.1 hj).1
                by_cases hq:q<xs.length
                · rw [List.getElem?_append_left hq] at hx
                  obtain ⟨v,g1,g2⟩:=h9 _ _ _ _ hx hj
                  have:q*i.size+i.size≤xs.length*i.size:=by
                    calc q*i.size+i.size=(q+1)*i.size:=by rw [Nat.add_mul,Nat.one_mul]
                      _≤xs.length*i.size:=Nat.mul_le_mul_right _ hq
                  rw [if_neg (by omega)]
                  exact ⟨v,by simpa using g1,g2.mono Ia⟩
                · rw [List.getElem?_append_right (by omega)] at hx
                  obtain ⟨v,g1,g2⟩:=Og.get _ d (eR (fun y hh=>(hy y hh).1) hx hj)
                  have Wj:=(List.getElem?_eq_some_iff.1 g1).1
                  have hqq:q*i.size=xs.length*i.size+(q - xs.length)*i.size:=by rw [←Nat.add_mul]; congr 1; omega
                  rw [if_pos (by omega)]
                  refine ⟨v,?_,g2.mono Ia⟩
                  rw [←g1]
                  congr 1
                  omega
            · obtain ⟨g1,g2,g3,g4,g5,g6,g7,g8⟩:=R5 e he
              by_cases eb:e.blk=p.blk
              · rw [eb] at g8 ⊢
                exact kM.write g8 h7 (fun x hx=>h6 x (List.mem_of_mem_take hx)) (by simp; omega) uE Ia
              · exact g8.mono Ia (setRow_other w p.blk e.blk _ eb)
          refine ⟨_,_,_,_,_,e_,k6,?_,c1,c2⟩
          exact .row (p:=p.grown p.blk p.cap xs.length) (by simp [cp.put]) (by simp [Place.grown,h1]) (by omega) qO (fun _=>.inr ⟨by simp [Place.grown],by simp [Place.grown]; omega⟩) fun e he ev=>by
            have:=((p.grown p.blk p.cap xs.length).kV e he).1
            simp only [Place.grown] at this
            omega
      · -- there is none: a new block
        have Z7:Le κ w κ w.drew:=Le.of_heap rfl
        have hold:∃kH:List Value,(Builtin.firstCells i.size xs.length (.slice (some ad) xs.length cap)).run P w.drew=.ok kH.toArray w.drew∧bP κ w kH xs.flatten:=by
          rcases ha h1 with qN | ⟨p3,kR⟩
          · have Wx:xs=[]:=List.eq_nil_of_length_eq_zero (by omega)
            subst Wx
            exact ⟨[],by rw [run_firstCells_some w.drew i.size _ ad _ cap [] (by simp) (by simp)],.nil⟩
          · simp only [Nat.zero_mul,Nat.add_zero,h3] at p3
            subst p3
            obtain ⟨kH,n1,n2,n3⟩:=pT (κ:=κ) (w:=w) (b:=p.blk) (o:=0) h6 h_ fun q y j d hq hj=>by
              obtain ⟨v,g1,g2⟩:=h9 q y j d hq hj
              exact ⟨v,by rw [cell_of_row w _ _ cs el _ h7,Nat.zero_add]; exact g1,g2⟩
            exact ⟨kH,run_firstCells_some w.drew i.size _ _ _ cap kH n2 (fun j v hv=>by rw [dQ]; exact n3 j v hv),n1⟩
        obtain ⟨kH,o1,o2⟩:=hold
        have ZQ:kH.length=xs.length*i.size:=by rw [o2.length,dX h6]
        have e_:=gG (P:=P) w t tx ty e i zv ht i1 i4 (some ad) xs.length cap kH o1 u ys.length news lA (by omega) (by omega) (by
          rw [We]
          exact growslice_fits (by omega) k5)
        have Sb:=grownCap_ge w (xs.length+ys.length) cap e
        have Wi:=grownCap_le_maxLen w (xs.length+ys.length) cap e (by simp only [maxLen]; omega)
        simp only [maxLen] at Wi
        generalize grownCap w (xs.length+ys.length) cap e=gc at e_ Sb Wi
        let xH:Array Value:=(kH++news).toArray++Builtin.zeroCells zv.cells (gc - (xs.length+ys.length))
        obtain ⟨c1,c2⟩:=close w.heap.size gc (w.drew.alloc (.cells xH e)) (by simp) (by simp) (.inr (Nat.le_refl _)) rfl rfl rfl (fun b hb _=>heap_alloc_old w.drew _ hb) Sb Wi fun κ' hκ Ia=>by
          have Oi:=(o2.append Og).mono Ia
          rw [←List.flatten_append] at Oi
          refine ⟨⟨xH,e,dq w.drew _,?_,fun q x j d hx hj=>?_⟩,kM.mono ⟨cs,el,h7,h8,h9⟩ Ia (heap_alloc_old w.drew _ (hi.ij r p hl)),fun e' he=>?_⟩
          · simp only [xH,Array.size_append,List.size_toArray,List.length_append,size_zeroCells,ZQ,tf,ZZ]
            rw [←Nat.add_mul,←Nat.add_mul,Nat.add_sub_cancel' Sb]
            exact Nat.le_refl _
          · obtain ⟨v,g1,g2⟩:=Oi.get _ d (eR qP hx hj)
            refine ⟨v,?_,g2⟩
            have hZ:=(List.getElem?_eq_some_iff.1 g1).1
            simp only [xH]
            rw [Array.getElem?_append_left (by simpa using hZ)]
            simpa using g1
          · obtain ⟨g1,g2,g3,g4,g5,g6,g7,g8⟩:=R5 e' he
            exact g8.mono Ia (heap_alloc_old w.drew _ (hi.gF ho hl (.inr ⟨e',he,rfl⟩)))
        refine ⟨_,_,_,_,_,e_,k6,?_,c1,c2⟩
        exact .row (p:=p.grown w.heap.size gc xs.length) (by simp [cp.put]) (by simp [Place.grown,h1]) (by omega) Sb (fun _=>.inr ⟨by simp [Place.grown],by simp [Place.grown]⟩) fun e he ev=>by
          have:=((p.grown w.heap.size gc xs.length).kV e he).1
          simp only [Place.grown] at this
          omega
    · exact hk.elim
  | _=>exact hk.elim
theorem Gg [aN] (hi:Inv κ h w) {v:Value} {d d':D} {h':aa} (r:cd κ w v d) (e:VX h d=some (d',h')):∃κ',Inv κ' h' w∧Ev κ h w κ' h' w∧cd κ' w v d':=by
  unfold VX at e
  split at e
  · cases e; exact ⟨κ,hi,Ev.refl κ h w,r⟩
  · ab q aR off len
    split at e
    · ab sz cur xs f9 ho
      split at e
      · ab adS
        subst adS
        split at e
        · cases e; exact ⟨κ,hi,Ev.refl κ h w,r⟩
        · split at e
          · ab p5
            cases e
            cases r with
            | row hl hv hn dY ha lI=>
            ab cap p ad
            obtain ⟨p',hp,hr⟩:=hi.obj _ _ ho
            rw [hl] at hp
            cases hp
            obtain ⟨h1,lT,h2,h4,h3,h5,Bi,h6,h9,Ye,R5,Rt⟩:=hr
            rw [←Ye] at p5
            obtain ⟨o,xZ,Uc⟩:=List.mem_map.1 p5
            obtain ⟨rfl,rfl⟩:=Prod.mk.inj Uc
            obtain ⟨g1,g2,g3,g4,g5,g6,g7,g8⟩:=R5 o xZ
            let p2:Place:={ blk:=o.blk,base:=0,aR:=p.aR+1,cap:=o.cap,sz:=p.sz,rc:=none,f9:=p.f9.filter fun e=>decide (e.aR≤o.aR),kV:=fun e he=>⟨Nat.lt_succ_of_lt (p.kV e (List.mem_filter.1 he).1).1,(p.kV e (List.mem_filter.1 he).1).2⟩ }
            have ple:qx p p2:=⟨fun e=>by omega,fun e he _=>(List.mem_filter.1 he).1,fun e he hv _=>absurd hv (Nat.ne_of_lt (p.kV e (List.mem_filter.1 he).1).1)⟩
            have le:Le κ w (κ.put q p2) w:=⟨fun b hb=>⟨hb,rfl⟩,fun j pj hj=>by
              by_cases LH:j=q
              · subst LH
                rw [hl] at hj
                cases hj
                exact ⟨p2,by simp [cp.put],Nat.le_succ _,fun e=>absurd e (Nat.succ_ne_self _),ple⟩
              · exact ⟨pj,by simp [cp.put,LH,hj],Nat.le_refl _,fun _=>rfl,qx.refl pj⟩⟩
            have mono:∀e∈p.f9,e.aR≤o.aR→e.len≤o.len:=fun e he hle=>by
              have key:∀{l:List Old},l.Pairwise (fun a b=>b.aR<a.aR∧b.len≤a.len)→o∈l→e∈l→e.len≤o.len:=by
                intro l hl
                induction hl with
                | nil=>intro x; cases x
                | cons hd _ ih=>
                  intro x y
                  cases x with
                  | head=>cases y with
                    | head=>exact Nat.le_refl _
                    | tail _ y=>exact (hd e y).2
                  | tail _ x=>cases y with
                    | head=>have:=(hd o x).1; omega
                    | tail _ y=>exact ih x y
              exact key Rt xZ he
            obtain ⟨c1,c2⟩:=hi.uQ (p':=p2) ho hl rfl (o':=.gb sz (cur+1) (xs.take o.len) (f9.filter fun e=>decide (e.1≤o.aR))) rfl (w':=w) (Nat.le_refl _) (hi.gF ho hl (.inr ⟨o,xZ,rfl⟩)) (fun b hb=>by
              rcases hb with hb | ⟨e,he,hb⟩
              · exact .inl (.inr ⟨o,xZ,hb⟩)
              · exact .inl (.inr ⟨e,(List.mem_filter.1 he).1,hb⟩)) (Nat.le_succ _) (fun e=>absurd e (Nat.succ_ne_self _)) ple rfl rfl rfl (fun _ _ _=>rfl) (by
              refine ⟨by simp [p2,h1],by omega,h2,g4,rfl,by simp [p2]; omega,g6,fun x hx=>h6 x (List.mem_of_mem_take hx),g8.mono le rfl,?_,fun e he=>?_,Rt.sublist List.filter_sublist⟩
              · rw [←Ye,List.filter_map]; rfl
              · obtain ⟨he1,he2⟩:=List.mem_filter.1 he
                have he3:e.aR≤o.aR:=by simpa using he2
                obtain ⟨k1,k2,k3,k4,k5,k6,k7,k8⟩:=R5 e he1
                have hml:=mono e he1 he3
                refine ⟨k1,by omega,k3,k4,k5,k6,by simp; omega,?_⟩
                rw [List.take_take,Nat.min_eq_left hml]
                exact k8.mono le rfl)
            refine ⟨_,c1,c2,.row (p:=p2) (by simp [cp.put]) (by simp [p2,h1]) hn dY (fun _=>?_) fun e he ev=>?_⟩
            · rcases lI o xZ rfl with k | ⟨k1,k2⟩
              · exact .inl k
              · exact .inr ⟨by rw [k1]; simp [p2],by simpa [p2] using k2⟩
            · have:=(p2.kV e he).1
              simp only [p2] at this
              omega
          · cases e
      · cases e
    · cases e
  · cases e
theorem vy [aN]:∀{ds Gj:List D} {κ:cp} {h h':aa} {f:Nat→Value},Inv κ h w→(∀i d,ds[i]? =some d→cd κ w (f i) d)→RT h ds=some (Gj,h')→∃κ',Inv κ' h' w∧Ev κ h w κ' h' w∧Gj.length=ds.length∧∀i d,Gj[i]? =some d→cd κ' w (f i) d
  | [],Gj,κ,h,h',f,hi,hr,e=>by
    cases e
    exact ⟨κ,hi,Ev.refl κ h w,rfl,fun i d hd=>by simp at hd⟩
  | d::ds,Gj,κ,h,h',f,hi,hr,e=>by
    unfold RT at e
    split at e
    · ab d1 h1 e1
      split at e
      · ab ds2 h2 e2
        cases e
        obtain ⟨κ1,i1,v1,r1⟩:=Gg hi (hr 0 d rfl) e1
        obtain ⟨κ2,i2,v2,l2,r2⟩:=vy (f:=fun i=>f (i+1)) i1 (fun i x hx=>(hr (i+1) x hx).mono (v1.le hi)) e2
        refine ⟨κ2,i2,v1.trans v2,by simp [l2],fun i x hx=>?_⟩
        cases i with
        | zero=>cases hx; exact r1.mono (v2.le i1)
        | succ i=>exact r2 i x hx
      · cases e
    · cases e
theorem Gh [aN] (hi:Inv κ h w) {v:Value} {d d':D} {h':aa} (r:cd κ w v d) (e:NH h d=some (d',h')):∃κ',Inv κ' h' w∧Ev κ h w κ' h' w∧cd κ' w v d':=by
  unfold NH at e
  split at e
  · split at e
    · ab ds Gj h2 e2
      cases e
      cases r with
      | agg hs hr=>
      ab cs
      obtain ⟨κ1,i1,v1,l1,r1⟩:=vy (f:=fun i=>cs.getD i (.tuple #[])) hi hr e2
      exact ⟨κ1,i1,v1,.agg (by omega) r1⟩
    · cases e
  · cases e
end Go.Proofs.YtpklkpkfgmoghaaGreatDoor.Zz
