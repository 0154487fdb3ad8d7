/- What is handed to others; calls; all instructions. -/
import Derived.Test.YtpklkpkfgmoghaaGreatDoorZN
set_option linter.unnecessarySimpa false
set_option linter.unusedVariables false
set_option linter.unusedSimpArgs false
namespace Go.Proofs.YtpklkpkfgmoghaaGreatDoor.Zz
variable {P:Program} {κ:b9} {h:aa} {w:World} {σ:Fr} {n:Nat} {a:Act} {K E:D→aa→Prop}
theorem qx (h:aa) (r q:Nat):(ee h r).f q=if q=r then (match h.f r with | some (.row sz aP xs _)=>some (.row sz aP xs true) | o=>o) else h.f q:=by
 unfold ee
 by_cases e:q=r
 ·subst e
  rw [if_pos rfl]
  split
  ·rename_i sz aP xs fz ho
   simp [ho]
  ·rename_i xu
   cases ho:h.f q with
   | none=>rfl
   | some o=>
    cases o with
    | row sz aP xs fz=>exact absurd ho (xu sz aP xs fz)
    | _=>rfl
 ·rw [if_neg e]
  split
  ·simp [e]
  ·rfl
theorem sN [aL] (hi:Inv κ h w) (r:Nat):∃κ',Inv κ' (ee h r) w∧Ev κ h w κ' (ee h r) w:=by
 cases ho:h.f r with
 | none=> 
  have:ee h r=h:=by simp [ee,ho]
  rw [this]; exact ⟨κ,hi,Ev.refl κ h w⟩
 | some o=>
  cases o with
  | row sz aP xs fz=>
   have e:ee h r=h.set r (.row sz aP xs true):=by simp [ee,ho]
   rw [e]
   cases fz with
   | true=>
    have:h.set r (.row sz aP xs true)=h:=aa.ext fun q=>by
     simp only [aa.dD]
     split
     ·rename_i hq; subst hq; exact ho.symm
     ·rfl
    rw [this]
    exact ⟨κ,hi,Ev.refl κ h w⟩
   | false=>
    obtain ⟨κ',h1,h2,_⟩:=hi.freeze ho
    exact ⟨κ',h1,h2⟩
  | _=>
   have:ee h r=h:=by simp [ee,ho]
   rw [this]; exact ⟨κ,hi,Ev.refl κ h w⟩
def gQ:D→List Nat
 | .row r _ _ _=>[r]
 | .agg ds=>ds.flatMap fun d=>match d with | .row r _ _ _=>[r] | _=>[]
 | _=>[]
theorem U5 (h:aa) (d:D):fA h d=(gQ d).foldl ee h:=by
 cases d with
 | row r aP off len=>rfl
 | agg ds=>
  simp only [fA,gQ]
  induction ds generalizing h with
  | nil=>rfl
  | cons d ds ih=>
   simp only [List.foldl_cons,List.flatMap_cons,List.foldl_append]
   rw [ih]
   congr 1
   cases d<;>rfl
 | _=>rfl
theorem ou (h:aa) (ds:List D):eV h ds=(ds.flatMap gQ).foldl ee h:=by
 unfold eV
 induction ds generalizing h with
 | nil=>rfl
 | cons d ds ih=>simp only [List.foldl_cons,List.flatMap_cons,List.foldl_append,ih,U5]
theorem vG [aL] (hi:Inv κ h w) (rs:List Nat):∃κ',Inv κ' (rs.foldl ee h) w∧Ev κ h w κ' (rs.foldl ee h) w:=by
 induction rs generalizing κ h with
 | nil=>exact ⟨κ,hi,Ev.refl κ h w⟩
 | cons r rs ih=>
  obtain ⟨κ1,h1,e1⟩:=sN hi r
  obtain ⟨κ2,h2,e2⟩:=ih h1
  exact ⟨κ2,h2,e1.trans e2⟩
def dh (h h':aa):Prop:=∀r,(∀sz aP xs fz,h.f r=some (.row sz aP xs fz)→∃Hu,h'.f r=some (.row sz aP xs Hu)∧(fz=true→Hu=true))∧((∀sz aP xs fz,h.f r≠some (.row sz aP xs fz))→h'.f r=h.f r)
theorem dh.ee (h:aa) (r:Nat):dh h (ee h r):=fun q=>by
 rw [qx]
 constructor
 ·intro sz aP xs fz ho
  by_cases e:q=r
  ·subst e; rw [if_pos rfl,ho]; exact ⟨true,rfl,fun _=>rfl⟩
  ·rw [if_neg e]; exact ⟨fz,ho,id⟩
 ·intro xu
  by_cases e:q=r
  ·subst e
   rw [if_pos rfl]
   split
   ·rename_i sz aP xs fz ho; exact absurd ho (xu _ _ _ _)
   ·rfl
  ·rw [if_neg e]
theorem dh.refl (h:aa):dh h h:=fun r=>⟨fun _ _ _ fz e=>⟨fz,e,id⟩,fun _=>rfl⟩
theorem dh.trans {h h1 h2:aa} (a:dh h h1) (b:dh h1 h2):dh h h2:=fun r=>by
 constructor
 ·intro sz aP xs fz e
  obtain ⟨X0,e1,l1⟩:=(a r).1 sz aP xs fz e
  obtain ⟨fz2,e2,l2⟩:=(b r).1 sz aP xs X0 e1
  exact ⟨fz2,e2,fun x=>l2 (l1 x)⟩
 ·intro xu
  have e1:=(a r).2 xu
  rw [←e1]
  exact (b r).2 (by rw [e1]; exact xu)
theorem dh.Nh (h:aa) (rs:List Nat):dh h (rs.foldl Zz.ee h):=by
 induction rs generalizing h with
 | nil=>exact .refl h
 | cons r rs ih=>exact (dh.ee h r).trans (ih _)
theorem sS (h:aa) (rs:List Nat) {r:Nat} (hr:r∈rs) {sz aP:Nat} {xs:List (List D)} {fz:Bool} (ho:h.f r=some (.row sz aP xs fz)):(rs.foldl ee h).f r=some (.row sz aP xs true):=by
 induction rs generalizing h fz with
 | nil=>cases hr
 | cons q rs ih=>
  simp only [List.foldl_cons]
  by_cases e:r∈rs
  ·obtain ⟨Hu,e1,_⟩:=((dh.ee h q) r).1 sz aP xs fz ho
   exact ih _ e e1
  ·have hq:r=q:=by
    cases hr with
    | head=>rfl
    | tail _ hh=>exact absurd hh e
   subst hq
   have e1:(ee h r).f r=some (.row sz aP xs true):=by rw [qx,if_pos rfl,ho]
   obtain ⟨Hu,e2,l2⟩:=((dh.Nh (ee h r) rs) r).1 sz aP xs true e1
   rw [l2 rfl] at e2
   exact e2
def kg (h:aa):D→D
 | .a_=>.sl []
 | .row r aP off len=>match h.f r with
  | some (.row sz bR xs fz)=>if aP=bR∧off+len≤xs.length then .sl ((xs.drop off).take len) else .undef
  | _=>.undef
 | d=>d
theorem j4 (h:aa) (ds:List D):plain h (.agg ds)=.agg (ds.map (kg h)):=by
 simp only [plain]
 congr 1
theorem lS (h:aa) (d:D) (hd:∀ds,d≠.agg ds):plain h d=kg h d:=by
 cases d<;>first | rfl | exact absurd rfl (hd _)
theorem te {h h':aa} (s:dh h h') (d:D):kg h' d=kg h d:=by
 cases d with
 | row r aP off len=>
  simp only [kg]
  cases ho:h.f r with
  | none=>rw [(s r).2 (by simp [ho]),ho]
  | some o=>
   cases o with
   | row sz bR xs fz=>
    obtain ⟨Hu,e,_⟩:=(s r).1 sz bR xs fz ho
    rw [e]
   | _=>rw [(s r).2 (by simp [ho]),ho]
 | _=>rfl
theorem wj {h h':aa} (s:dh h h') (d:D):plain h' d=plain h d:=by
 cases d with
 | agg ds=>rw [j4,j4]; congr 1; exact List.map_congr_left fun d _=>te s d
 | _=>rw [lS _ _ (by simp),lS _ _ (by simp)]; exact te s _
theorem mj [aL] (hi:Inv κ h w) {v:Value} {d:D} (r:bX κ w v d) (hf:∀q aP off len sz bR xs fz,d=.row q aP off len→h.f q=some (.row sz bR xs fz)→fz=true):bX κ w v (kg h d):=by
 cases d with
 | a_=>cases r; exact .slnil fun _=>rfl
 | row q aP off len=>
  simp only [kg]
  split
  ·rename_i sz bR xs fz ho
   split
   ·rename_i hc
    obtain ⟨rfl,hle⟩:=hc
    have hfz:=hf q aP off len sz aP xs fz rfl ho
    subst hfz
    cases r with
    | row hl hv hn dO ha lB=>
    rename_i cap p ad
    obtain ⟨p',hp,hr⟩:=hi.obj _ _ ho
    rw [hl] at hp
    cases hp
    obtain ⟨h1,lL,h2,h3,h4,h5,AW,h6,cs,el,h7,h8,h9⟩:=hr
    have hlen:len=((xs.drop off).take len).length:=by simp; omega
    rcases ha h1 with qA | ⟨pO,kL⟩
    ·have Fm:len=0:=by omega
     subst Fm
     have jG:(xs.drop off).take 0=[]:=by simp
     rw [jG]
     exact .slnil fun e=>by cases e
    ·subst pO
     refine .D8 (sz:=sz) hlen (fun i j=>cs.getD (p.base+off*p.sz+i*sz+j) undef) (by rw [←hlen]; exact hn) (by rw [←hlen]; exact dO) (fun y hy=>h6 y (List.mem_of_mem_drop (List.mem_of_mem_take hy))) (fun i y j d hy hd=>?_) (fun i y j d hy hd=>?_)
     ·rw [List.getElem?_take] at hy
      split at hy
      ·rw [List.getElem?_drop] at hy
       obtain ⟨v,g1,g2⟩:=h9 _ y j d hy hd
       refine ⟨h3 rfl,?_⟩
       rw [cell_of_row w _ _ cs el _ h7,h2]
       have:p.base+off*sz+i*sz+j=p.base+(off+i)*sz+j:=by rw [Nat.add_mul]; omega
       rw [this,g1]
       simp [Array.getD_eq_getD_getElem?,g1]
      ·cases hy
     ·rw [List.getElem?_take] at hy
      split at hy
      ·rw [List.getElem?_drop] at hy
       obtain ⟨v,g1,g2⟩:=h9 _ y j d hy hd
       have:p.base+off*p.sz+i*sz+j=p.base+(off+i)*sz+j:=by rw [h2,Nat.add_mul]; omega
       simp only [this,Array.getD_eq_getD_getElem?,g1]
       exact g2
      ·cases hy
   ·exact .undef _
  ·exact .undef _
 | _=>exact r
theorem zA [aL] (hi:Inv κ h w) {v:Value} {d:D} (r:bX κ w v d) (hf:∀q∈gQ d,∀sz aP xs fz,h.f q=some (.row sz aP xs fz)→fz=true):bX κ w v (plain h d):=by
 cases d with
 | agg ds=>
  rw [j4]
  cases r with
  | agg hs hr=>
  refine .agg (by simpa using hs) fun i d hd=>?_
  simp only [List.getElem?_map,Option.map_eq_some_iff] at hd
  obtain ⟨d0,h1,rfl⟩:=hd
  refine mj hi (hr i d0 h1) fun q aP off len sz bR xs fz e ho=>?_
  subst e
  exact hf q (by simp only [gQ,List.mem_flatMap]; exact ⟨_,List.mem_of_getElem? h1,by simp⟩) sz bR xs fz ho
 | row q aP off len=>
  rw [lS _ _ (by simp)]
  exact mj hi r fun q' _ _ _ sz bR xs fz e ho=>by cases e; exact hf q (by simp [gQ]) sz bR xs fz ho
 | _=>
  rw [lS _ _ (by simp)]
  exact mj hi r fun _ _ _ _ _ _ _ _ e _=>by cases e
theorem iK [aL] (hi:Inv κ h w) {vs:List Value} {ds:List D} (r:bJ κ w vs ds):∃κ',Inv κ' (eV h ds) w∧Ev κ h w κ' (eV h ds) w∧bJ κ' w vs (ds.map (plain h)):=by
 rw [ou]
 obtain ⟨κ',h1,e1⟩:=vG hi (ds.flatMap gQ)
 refine ⟨κ',h1,e1,bJ.nH (by simpa using r.length) fun i d hd=>?_⟩
 simp only [List.getElem?_map,Option.map_eq_some_iff] at hd
 obtain ⟨d0,h2,rfl⟩:=hd
 obtain ⟨v,g1,g2⟩:=r.get i d0 h2
 refine ⟨v,g1,?_⟩
 have same:=dh.Nh h (ds.flatMap gQ)
 rw [←wj same]
 refine zA h1 (g2.mono (e1.le hi)) fun q hq sz aP xs fz ho=>?_
 cases nu:h.f q with
 | none=>rw [(same q).2 (by simp [nu]),nu] at ho; cases ho
 | some o=>
  cases o with
  | row gM bR xs' Hu=>
   have:=sS h (ds.flatMap gQ) (List.mem_flatMap.2 ⟨d0,List.mem_of_getElem? h2,hq⟩) nu
   rw [this] at ho
   cases ho
   rfl
  | _=>rw [(same q).2 (by simp [nu]),nu] at ho; cases ho
theorem Inv.Wo [aL] (hi:Inv κ h w) {r sz aP:Nat} {xs xs':List (List D)} {fz:Bool} {p:Place} (ho:h.f r=some (.row sz aP xs fz)) (hp:κ.loc r=some p) (hr:fX κ w p (.row sz aP xs' fz)):
  Inv κ (h.set r (.row sz aP xs' fz)) w∧Ev κ h w κ (h.set r (.row sz aP xs' fz)) w:=by
 have back:∀i o,(h.set r (.row sz aP xs' fz)).f i=some o→∃o0,h.f i=some o0∧o0.live=o.live∧∀q,κ.loc i=some q→∀b,Own o q b→Own o0 q b:=fun i o e=>by
  simp only [aa.dD] at e
  split at e
  ·rename_i e1
   subst e1
   cases e
   exact ⟨_,ho,rfl,fun q _ b hb=>hb⟩
  ·exact ⟨o,e,rfl,fun _ _ _ hb=>hb⟩
 refine ⟨⟨hi.fb,hi.h_,hi.fresh,fun i o e=>?_,fun i j oi oj pi pj b ei ej li lj qi qj xH CO=>?_,hi.kz⟩,{ Ev.refl κ h w with own:=fun b _ hb=>?_,ids:=fun id q hq hn=>?_ }⟩
 ·simp only [aa.dD] at e
  split at e
  ·rename_i e1
   subst e1
   cases e
   exact ⟨p,hp,hr⟩
  ·exact hi.obj i o e
 ·obtain ⟨o1,a1,a2,a3⟩:=back i oi ei
  obtain ⟨o2,b1,b2,b3⟩:=back j oj ej
  exact hi.inj i j o1 o2 pi pj b a1 b1 (a2.trans li) (b2.trans lj) qi qj (a3 pi qi b xH) (b3 pj qj b CO)
 ·obtain ⟨i,o1,q,h1,h2,h3,h4⟩:=hb
  obtain ⟨o0,a1,a2,a3⟩:=back i o1 h1
  exact ⟨i,o0,q,a1,a2.trans h2,h3,a3 q h3 b h4⟩
 ·have:id≠r:=fun e=>by subst e; rw [ho] at hn; cases hn
  simp [this,hn]
theorem Bb {α β:Type} {f:α→β} {l:List (List α)} {i j:Nat} {x:List β} {d:β} (hx:(l.map (List.map f))[i]? =some x) (hj:x[j]? =some d):∃y e,l[i]? =some y∧y[j]? =some e∧f e=d:=by
 rw [List.getElem?_map,Option.map_eq_some_iff] at hx
 obtain ⟨y,hy,rfl⟩:=hx
 rw [List.getElem?_map,Option.map_eq_some_iff] at hj
 obtain ⟨e,he,rfl⟩:=hj
 exact ⟨y,e,hy,he,rfl⟩
theorem Bk [aL] (hi:Inv κ h w) {v:Value} {d:D} (r:bX κ w v d):∃κ',Inv κ' (AP h d) w∧Ev κ h w κ' (AP h d) w∧bX κ' w v (pX h d):=by
 have one:∃κ',Inv κ' (fA h d) w∧Ev κ h w κ' (fA h d) w∧bX κ' w v (plain h d):=by
  obtain ⟨κ',a1,a2,a3⟩:=iK hi (.cons r .nil:bJ κ w [v] [d])
  refine ⟨κ',a1,a2,?_⟩
  cases a3 with
  | cons a _=>exact a
 cases d with
 | row q aP off len=>
  simp only [AP,pX]
  cases ho:h.f q with
  | none=>exact ⟨κ,hi,Ev.refl κ h w,.undef _⟩
  | some o=>
   cases o with
   | row sz bR xs fz=>
    simp only
    obtain ⟨p,hp,hr⟩:=hi.obj q _ ho
    obtain ⟨κ1,i1,AO,same,FZ⟩:∃κ1,Inv κ1 (eV h xs.flatten) w∧Ev κ h w κ1 (eV h xs.flatten) w∧dh h (eV h xs.flatten)∧∀(v:Value) (d:D),d∈xs.flatten→bX κ w v d→bX κ1 w v (plain h d):=by
     rw [ou]
     obtain ⟨κ',h1,e1⟩:=vG hi (xs.flatten.flatMap gQ)
     have same:=dh.Nh h (xs.flatten.flatMap gQ)
     refine ⟨κ',h1,e1,same,fun v d hd rv=>?_⟩
     rw [←wj same]
     refine zA h1 (rv.mono (e1.le hi)) fun q hq sz aP xs' fz Xk=>?_
     cases nu:h.f q with
     | none=>rw [(same q).2 (by simp [nu]),nu] at Xk; cases Xk
     | some o=>
      cases o with
      | row gM bR agJ Hu=>
       have:=sS h (xs.flatten.flatMap gQ) (List.mem_flatMap.2 ⟨d,hd,hq⟩) nu
       rw [this] at Xk
       cases Xk
       rfl
      | _=>rw [(same q).2 (by simp [nu]),nu] at Xk; cases Xk
    obtain ⟨X0,xI,_⟩:=(same q).1 sz bR xs fz ho
    obtain ⟨p1,hp1,Vp⟩:=i1.obj q _ xI
    have Vm:p1=p:=by
     obtain ⟨p',k1,k2,k3,_⟩:=AO.loc q p hp
     rw [hp1] at k1
     cases k1
     exact k3 (by have:=hr.1; have:=Vp.1; omega)
    subst Vm
    obtain ⟨i2,ev2⟩:=i1.Wo (xs':=xs.map (List.map (plain h))) xI hp1 (by
     obtain ⟨h1,lL,h2,h3,h4,h5,AW,h6,cs,el,h7,h8,h9⟩:=Vp
     obtain ⟨_,_,_,_,_,_,_,_,cs0,el0,g7,_,g9⟩:=hr
     rw [g7] at h7
     cases h7
     refine ⟨h1,lL,h2,h3,h4,by simpa using h5,AW,fun x hx=>?_,cs,el,g7,h8,fun i x j d hx hj=>?_⟩
     ·obtain ⟨y,hy,rfl⟩:=List.mem_map.1 hx
      simpa using h6 y hy
     ·obtain ⟨y,e,hy,he,rfl⟩:=Bb hx hj
      obtain ⟨v,k1,k2⟩:=g9 i y j e hy he
      exact ⟨v,k1,FZ v e (List.mem_flatten.2 ⟨y,List.mem_of_getElem? hy,List.mem_of_getElem? he⟩) k2⟩)
    obtain ⟨κ3,i3,ev3⟩:=sN i2 q
    have e3:ee ((eV h xs.flatten).set q (.row sz bR (xs.map (List.map (plain h))) X0)) q=(eV h xs.flatten).set q (.row sz bR (xs.map (List.map (plain h))) true):=by
     simp [ee,aa.set_set]
    rw [e3] at i3 ev3
    have ev:=(AO.trans ev2).trans ev3
    refine ⟨κ3,i3,ev,?_⟩
    have:=mj i3 (r.mono (ev.le hi)) fun q' _ _ _ sz2 agH xs2 fz2 e Tk=>by
     cases e
     simp at Tk
     exact Tk.2.2.2▸rfl
    simpa [kg] using this
   | _=>exact ⟨κ,hi,Ev.refl κ h w,.undef _⟩
 | _=>exact one
theorem gi {f:FuncId} {args:Array Value} (hc:eY P f=true) (w:World):(callFunc f args).run P w=.ok (.enter f args) w:=by
 unfold eY at hc
 split at hc
 ·rename_i fn Xf
  simp only [Bool.and_eq_true,Bool.not_eq_true'] at hc
  obtain ⟨h1,h2⟩:=hc
  have h3:fn.body.isNone=false:=by
   cases hb:fn.body<;>simp [hb] at h2 ⊢
  simp only [callFunc,Sem.run_bind,run_program,Result.andThen,Xf]
  rw [if_neg (by rw [h1]; simp),if_neg (by rw [h3]; simp)]
  rfl
 ·cases hc
theorem Calls.toA [aL] {f:FuncId} {vs:Array Value} {args:List D} {R:dn→aa→Prop} (hc:aO P f args h R) (hi:Inv κ h w) (r:bJ κ w vs.toList args):
  Calls P f vs w fun e w'=>∃o h' κ',R o h'∧jB κ' w' o e∧Inv κ' h' w'∧Ev κ h w κ' h' w':=hc.2 κ w vs hi r
end Go.Proofs.YtpklkpkfgmoghaaGreatDoor.Zz
namespace Go.Proofs.YtpklkpkfgmoghaaGreatDoor.Zz
variable {P:Program} {κ:b9} {h:aa} {w:World} {K E:D→aa→Prop}
theorem kF.write {κ':b9} {b sz cap m:Nat} {xs:List (List D)} {cs:Array Value} {ty:TypeId} {news:List Value} (r:kF κ w b sz cap xs) (hb:w.heap[b]? =some (.cells cs ty (0,0))) (mI:∀x∈xs,x.length=sz)
    (hm:xs.length≤m) (uk:m*sz+news.length≤cs.toList.length) (le:Le κ w κ' (w.setRow b (cs.toList.take (m*sz)++news++cs.toList.drop (m*sz+news.length)).toArray)):
    kF κ' (w.setRow b (cs.toList.take (m*sz)++news++cs.toList.drop (m*sz+news.length)).toArray) b sz cap xs:=by
  obtain ⟨cs0,t0,h1,h2,h3⟩:=r
  rw [hb] at h1
  cases h1
  refine ⟨_,ty,setRow_heap w b cs _ ty (0,0) hb,?_,fun i x j d hx hj=>?_⟩
  · simp only [List.size_toArray,List.length_append,List.length_take,List.length_drop,Array.length_toList] at uk ⊢
    omega
  · obtain ⟨v,g1,g2⟩:=h3 i x j d hx hj
    refine ⟨v,?_,g2.mono le⟩
    have AX:j<sz:=by rw [←mI x (List.mem_of_getElem? hx)]; exact (List.getElem?_eq_some_iff.1 hj).1
    have ku:=(List.getElem?_eq_some_iff.1 hx).1
    have:i*sz+sz≤m*sz:=by
      calc i*sz+sz=(i+1)*sz:=by rw [Nat.add_mul,Nat.one_mul]
        _≤m*sz:=Nat.mul_le_mul_right _ (by omega)
    simp only [List.getElem?_toArray]
    rw [il _ _ _ _ uk,if_neg (by omega)]
    simpa using g1
theorem Dk [aL] (hi:Inv κ h w) (t:TypeId) {cs:Array Value} {xs:List (List D)} {sz cap:Nat} (mI:∀x∈xs,x.length=sz) (dO:xs.length≤cap) (Hx:cap≤9223372036854775807) (uk:cap*sz≤cs.size)
    (hr:∀(i:Nat) (x:List D) (j:Nat) (d:D),xs[i]? =some x→x[j]? =some d→∃v,cs[i*sz+j]? =some v∧bX κ w v d)
    (hk:∀id,h.f id=none→K (.row id 2 0 xs.length) (h.set id (.fW sz 2 xs []))):
    ∃κ' h' d,K d h'∧bX κ' (w.alloc (.cells cs t)) (.slice (some ⟨w.heap.size,0,none⟩) xs.length cap) d∧Inv κ' h' (w.alloc (.cells cs t))∧Ev κ h w κ' h' (w.alloc (.cells cs t)):=by
  obtain ⟨id,hid,hf⟩:=hi.r_
  let p:Place:={ blk:=w.heap.size,base:=0,aP:=2,cap,sz,rc:=none }
  have le:=Le.alloc (κ:=κ) hi (.cells cs t) hid p
  obtain ⟨i1,e1⟩:=hi.alloc hid hf (.cells cs t) (.fW sz 2 xs []) p rfl rfl rfl ⟨rfl,Nat.le_refl _,rfl,fun hx=>by have:=hi.fb _ hx; simp [p] at this,rfl,dO,Hx,mI,⟨cs,t,c7 w _,by simpa [p] using uk,fun i x j d hx hj=>by
    obtain ⟨v,g1,g2⟩:=hr i x j d hx hj
    exact ⟨v,g1,g2.mono le⟩⟩,rfl,(by simp [p]),(by simp [p])⟩
  exact ⟨_,_,_,hk id hf,.row (p:=p) (by simp [b9.put]) (Nat.le_refl _) (by omega) dO (fun _=>.inr ⟨by simp [p],by simp [p]⟩) (by simp [p]),i1,e1⟩
def Place.grown (p:Place) (blk cap len:Nat):Place:=
  { blk,base:=0,aP:=p.aP+1,cap,sz:=p.sz,rc:=none,fU:=⟨p.aP,p.blk,p.cap,p.sz,len⟩::p.fU,kO:=by
      intro e he
      cases he with
      | head=>exact ⟨Nat.lt_succ_self _,rfl⟩
      | tail _ he=>exact ⟨Nat.lt_succ_of_lt (p.kO e he).1,(p.kO e he).2⟩ }
theorem qc.grown {p:Place} {blk cap len:Nat} (h2:2≤p.aP) (hb:p.base=0):qc p (p.grown blk cap len) where
  one:=fun e=>by omega
  lt:=fun e he hv=>by
    cases he with
    | head=>exact absurd hv (Nat.lt_irrefl _)
    | tail _ he=>exact he
  eq:=fun e he hv hn=>by
    cases he with
    | head=>exact ⟨hb,rfl,rfl,rfl⟩
    | tail _ he=>exact absurd hv (Nat.ne_of_lt (p.kO e he).1)
theorem xz [aL] (hi:Inv κ h w) {t tx ty e:TypeId} {sz jE:Nat} {z:D} (ht:P.underlying t=some (.slice e)) (hs:bO P e=some sz) (hb:gB P e=some jE) (hz:fG P e=some z) (QN:(cellsD z).length=sz) (gZ:0<sz)
    {s u:Value} {ds x:D} (rs:bX κ w s ds) {ys:List (List D)} (hy:∀y∈ys,y.length=sz∧y.all bY=true) (CQ:0<jE) {news:List Value} (lr:Src P sz tx u ys.length news w) (Nz:bJ κ w news ys.flatten) (jG:ys≠[])
    (hk:match ds with
       | .a_=>ys.length*jE≤140737488355328∧∀id,h.f id=none→K (.row id 2 0 ys.length) (h.set id (.fW sz 2 ys []))
       | .row r aP off len=>match h.f r with
         | some (.fW gM bR xs fU)=>aP=bR∧gM=sz∧off=0∧len=xs.length∧(xs.length+ys.length)*jE≤140737488355328∧
             K (.row r (aP+1) 0 (len+ys.length)) (h.set r (.fW sz (aP+1) (xs++ys) ((aP,len)::fU)))
         | _=>False
       | _=>False):
    ∃v w' κ' h' d,(Builtin.append_ #[t,tx] ty #[s,u]).run P w=.ok v w'∧K d h'∧bX κ' w' v d∧Inv κ' h' w'∧Ev κ h w κ' h' w':=by
  obtain ⟨i,i1,i2⟩:=nX hs
  obtain ⟨zv,z1,z2,i',i3,i4⟩:=iV hz κ w
  rw [i1] at i3
  cases i3
  have Vd:i.bytes=jE:=by
    unfold gB at hb
    rw [i1] at hb
    simpa using hb
  subst i2
  have Yt:zv.cells.size=i.size:=by
    have:=z2.length
    simp at this
    omega
  have sU:news.length=ys.length*i.size:=lr.newsLen
  have QL:0<ys.length:=List.length_pos_iff.2 jG
  cases ds with
  | a_=>
    cases rs
    obtain ⟨k2,k3⟩:=hk
    have hle:ys.length≤140737488355328:=Nat.le_trans (Nat.le_mul_of_pos_right _ CQ) k2
    have eR:=run_append_grow_src (P:=P) w t tx ty e i zv ht i1 i4 none 0 0 [] (by rw [run_firstCells_none]) u ys.length news lr (by omega) (by omega) (by
      rw [Vd,Nat.zero_add]
      exact growslice_fits (by omega) k2)
    simp only [Nat.zero_add,List.nil_append] at eR
    have dO:=grownCap_ge w ys.length 0 e
    have CR:=grownCap_le_maxLen w ys.length 0 e (by simp only [maxLen]; omega)
    simp only [maxLen] at CR
    have ku:Inv κ h w.drew:=hi.of_heap rfl
    have NB:=Nz.mono (Le.of_heap (κ:=κ) (w:=w) (w':=w.drew) rfl)
    obtain ⟨κ',h',d,a1,a2,a3,a4⟩:=Dk (K:=K) ku e (cs:=news.toArray++Builtin.zeroCells zv.cells (grownCap w ys.length 0 e - ys.length)) (xs:=ys) (sz:=i.size) (cap:=grownCap w ys.length 0 e)
      (fun y hh=>(hy y hh).1) dO CR (by
        simp only [Array.size_append,List.size_toArray,size_zeroCells,sU,Yt]
        rw [←Nat.add_mul,Nat.add_sub_cancel' dO]; exact Nat.le_refl _)
      (fun i1 x j d hx hj=>by
        obtain ⟨v,g1,g2⟩:=NB.get _ d (eH (fun y hh=>(hy y hh).1) hx hj)
        refine ⟨v,?_,g2⟩
        have gY:=(List.getElem?_eq_some_iff.1 g1).1
        rw [Array.getElem?_append_left (by simpa using gY)]
        simpa using g1)
      k3
    exact ⟨_,_,κ',h',d,eR,a1,a2,a3,Ev.drew.trans a4⟩
  | row r aP off len=>
    simp only at hk
    split at hk
    · rename_i gM bR xs fU ho
      obtain ⟨k1,k2,k3,k4,k5,k6⟩:=hk
      subst k1 k2 k3 k4
      cases rs with
      | row hl hv hn dO ha lB=>
      rename_i cap p ad
      obtain ⟨p',hp,hr⟩:=hi.obj _ _ ho
      rw [hl] at hp
      cases hp
      obtain ⟨h1,lL,h2,h4,h3,h5,AW,h6,⟨cs,el,h7,h8,h9⟩,Xa,Rf,QF⟩:=hr
      have hle:xs.length+ys.length≤140737488355328:=Nat.le_trans (Nat.le_mul_of_pos_right _ CQ) k5
      have qC:∀y∈xs++ys,y.length=i.size:=fun y hh=>by
        rcases List.mem_append.1 hh with hh | hh
        · exact h6 y hh
        · exact (hy y hh).1
      have htk:∀n,n≤xs.length→(xs++ys).take n=xs.take n:=fun n hn=>by rw [List.take_append_of_le_length hn]
      have close:∀(blk gc:Nat) (w':World),w.heap.size≤w'.heap.size→blk<w'.heap.size→(blk=p.blk∨w.heap.size≤blk)→w'.os=w.os→w'.tape=w.tape→w'.output=w.output→
          (∀b,b<w.heap.size→b≠p.blk→w'.heap[b]? =w.heap[b]?)→xs.length+ys.length≤gc→gc≤9223372036854775807→
          (∀κ',κ'=κ.put r (p.grown blk gc xs.length)→Le κ w κ' w'→kF κ' w' blk i.size gc (xs++ys)∧kF κ' w' p.blk i.size p.cap xs∧∀e∈p.fU,kF κ' w' e.blk i.size e.cap (xs.take e.len))→
          Inv (κ.put r (p.grown blk gc xs.length)) (h.set r (.fW i.size (aP+1) (xs++ys) ((aP,xs.length)::fU))) w'∧Ev κ h w (κ.put r (p.grown blk gc xs.length)) (h.set r (.fW i.size (aP+1) (xs++ys) ((aP,xs.length)::fU))) w':=fun blk gc w' q1 q2 q3 q4 q5 q6 q7 q8 q9 q10=>by
        have hle:Le κ w (κ.put r (p.grown blk gc xs.length)) w':=by
          refine ⟨fun b hb=>⟨hb,q7 b (hi.fb b hb) fun eb=>h4 (eb▸hb)⟩,fun q pq hq=>?_⟩
          by_cases Tm:q=r
          · subst Tm
            rw [hl] at hq
            cases hq
            exact ⟨p.grown blk gc xs.length,by simp [b9.put],Nat.le_succ _,fun e=>absurd e (Nat.succ_ne_self _),qc.grown (by omega) h3⟩
          · exact ⟨pq,by simp [b9.put,Tm,hq],Nat.le_refl _,fun _=>rfl,qc.refl pq⟩
        obtain ⟨r1,r2,r3⟩:=q10 _ rfl hle
        refine hi.uB ho hl rfl (o':=.fW i.size (aP+1) (xs++ys) ((aP,xs.length)::fU)) rfl q1 q2 (fun b lB=>?_) (Nat.le_succ _) (fun e=>absurd e (Nat.succ_ne_self _)) (qc.grown (by omega) h3) q4 q5 q6 (fun b hb xu=>q7 b hb fun eb=>xu (eb▸Own.self)) ?_
        · rcases lB with lB | ⟨e,he,lB⟩
          · rcases q3 with q3 | q3
            · exact .inl (.inl (q3▸lB))
            · exact .inr (lB▸q3)
          · cases he with
            | head=>exact .inl (.inl lB)
            | tail _ he=>exact .inl (.inr ⟨e,he,lB⟩)
        · refine ⟨by simp [Place.grown,h1],by omega,h2,fun hx=>?_,rfl,by simpa [Place.grown] using q8,q9,qC,r1,?_,fun e he=>?_,?_⟩
          · rcases q3 with q3 | q3
            · exact h4 (q3▸hx)
            · have:=hi.fb _ hx
              simp only [Place.grown] at this
              omega
          · simp [Place.grown,Xa,h1]
          · cases he with
            | head=>exact ⟨by show 2≤p.aP; omega,by show p.aP<aP+1; omega,h2,h4,h5,AW,by simp,by simpa using r2⟩
            | tail _ he=>
              obtain ⟨g1,g2,g3,g4,g5,g6,g7,g8⟩:=Rf e he
              exact ⟨g1,by omega,g3,g4,g5,g6,by simp; omega,by rw [htk _ g7]; exact r3 e he⟩
          · refine List.pairwise_cons.2 ⟨fun e he=>?_,QF⟩
            obtain ⟨g1,g2,g3,g4,g5,g6,g7,g8⟩:=Rf e he
            exact ⟨(p.kO e he).1,g7⟩
      by_cases qB:xs.length+ys.length≤cap
      · -- there is room: in place
        rcases ha h1 with qA | ⟨pO,kL⟩
        · omega
        · simp only [Nat.zero_mul,Nat.add_zero,Nat.zero_add,h3] at pO kL
          subst pO
          have F2:(xs.length+ys.length)*i.size≤cs.size:=by
            have:(xs.length+ys.length)*i.size≤p.cap*i.size:=Nat.mul_le_mul_right _ (by omega)
            omega
          rw [Nat.add_mul] at F2
          have eR:=jK (P:=P) (w:=w) (ty:=ty) ht i1 h7 lr qB (off:=0) (by omega)
          simp only [Nat.zero_add] at eR
          have uk:xs.length*i.size+news.length≤cs.toList.length:=by simp; omega
          obtain ⟨c1,c2⟩:=close p.blk p.cap (w.setRow p.blk (cs.toList.take (xs.length*i.size)++news++cs.toList.drop (xs.length*i.size+news.length)).toArray) (by simp) (by simpa using hi.h_ r p hl) (.inl rfl) rfl rfl rfl (fun b _ hb=>setRow_other w p.blk b _ hb) (by omega) AW fun κ' hκ HF=>by
            refine ⟨?_,kF.write ⟨cs,el,h7,h8,h9⟩ h7 h6 (Nat.le_refl _) uk HF,fun e he=>?_⟩
            · refine ⟨_,el,setRow_heap w p.blk cs _ el (0,0) h7,?_,fun q x j d hx hj=>?_⟩
              · simp only [List.size_toArray,List.length_append,List.length_take,List.length_drop,Array.length_toList]
                omega
              · simp only [List.getElem?_toArray]
                rw [il _ _ _ _ uk]
                have AX:j<i.size:=by rw [←qC x (List.mem_of_getElem? hx)]; exact (List.getElem?_eq_some_iff.1 hj).1
                by_cases hq:q<xs.length
                · rw [List.getElem?_append_left hq] at hx
                  obtain ⟨v,g1,g2⟩:=h9 _ _ _ _ hx hj
                  have:q*i.size+i.size≤xs.length*i.size:=by
                    calc q*i.size+i.size=(q+1)*i.size:=by rw [Nat.add_mul,Nat.one_mul]
                      _≤xs.length*i.size:=Nat.mul_le_mul_right _ hq
                  rw [if_neg (by omega)]
                  exact ⟨v,by simpa using g1,g2.mono HF⟩
                · rw [List.getElem?_append_right (by omega)] at hx
                  obtain ⟨v,g1,g2⟩:=Nz.get _ d (eH (fun y hh=>(hy y hh).1) hx hj)
                  have Vi:=(List.getElem?_eq_some_iff.1 g1).1
                  have hqq:q*i.size=xs.length*i.size+(q - xs.length)*i.size:=by rw [←Nat.add_mul]; congr 1; omega
                  rw [if_pos (by omega)]
                  refine ⟨v,?_,g2.mono HF⟩
                  rw [←g1]
                  congr 1
                  omega
            · obtain ⟨g1,g2,g3,g4,g5,g6,g7,g8⟩:=Rf e he
              by_cases eb:e.blk=p.blk
              · rw [eb] at g8 ⊢
                exact kF.write g8 h7 (fun x hx=>h6 x (List.mem_of_mem_take hx)) (by simp; omega) uk HF
              · exact g8.mono HF (setRow_other w p.blk e.blk _ eb)
          refine ⟨_,_,_,_,_,eR,k6,?_,c1,c2⟩
          exact .row (p:=p.grown p.blk p.cap xs.length) (by simp [b9.put]) (by simp [Place.grown,h1]) (by omega) qB (fun _=>.inr ⟨by simp [Place.grown],by simp [Place.grown]; omega⟩) fun e he ev=>by
            have:=((p.grown p.blk p.cap xs.length).kO e he).1
            simp only [Place.grown] at this
            omega
      · -- there is none: a new block
        have Yz:Le κ w κ w.drew:=Le.of_heap rfl
        have hold:∃kA:List Value,(Builtin.firstCells i.size xs.length (.slice (some ad) xs.length cap)).run P w.drew=.ok kA.toArray w.drew∧bJ κ w kA xs.flatten:=by
          rcases ha h1 with qA | ⟨pO,kL⟩
          · have Vw:xs=[]:=List.eq_nil_of_length_eq_zero (by omega)
            subst Vw
            exact ⟨[],by rw [run_firstCells_some w.drew i.size _ ad _ cap [] (by simp) (by simp)],.nil⟩
          · simp only [Nat.zero_mul,Nat.add_zero,h3] at pO
            subst pO
            obtain ⟨kA,n1,n2,n3⟩:=pH (κ:=κ) (w:=w) (b:=p.blk) (o:=0) h6 gZ fun q y j d hq hj=>by
              obtain ⟨v,g1,g2⟩:=h9 q y j d hq hj
              exact ⟨v,by rw [cell_of_row w _ _ cs el _ h7,Nat.zero_add]; exact g1,g2⟩
            exact ⟨kA,run_firstCells_some w.drew i.size _ _ _ cap kA n2 (fun j v hv=>by rw [dG]; exact n3 j v hv),n1⟩
        obtain ⟨kA,o1,o2⟩:=hold
        have Yk:kA.length=xs.length*i.size:=by rw [o2.length,dN h6]
        have eR:=run_append_grow_src (P:=P) w t tx ty e i zv ht i1 i4 (some ad) xs.length cap kA o1 u ys.length news lr (by omega) (by omega) (by
          rw [Vd]
          exact growslice_fits (by omega) k5)
        have Rm:=grownCap_ge w (xs.length+ys.length) cap e
        have Vh:=grownCap_le_maxLen w (xs.length+ys.length) cap e (by simp only [maxLen]; omega)
        simp only [maxLen] at Vh
        generalize grownCap w (xs.length+ys.length) cap e=gc at eR Rm Vh
        let xq:Array Value:=(kA++news).toArray++Builtin.zeroCells zv.cells (gc - (xs.length+ys.length))
        obtain ⟨c1,c2⟩:=close w.heap.size gc (w.drew.alloc (.cells xq e)) (by simp) (by simp) (.inr (Nat.le_refl _)) rfl rfl rfl (fun b hb _=>heap_alloc_old w.drew _ hb) Rm Vh fun κ' hκ HF=>by
          have NC:=(o2.append Nz).mono HF
          rw [←List.flatten_append] at NC
          refine ⟨⟨xq,e,c7 w.drew _,?_,fun q x j d hx hj=>?_⟩,kF.mono ⟨cs,el,h7,h8,h9⟩ HF (heap_alloc_old w.drew _ (hi.h_ r p hl)),fun e' he=>?_⟩
          · simp only [xq,Array.size_append,List.size_toArray,List.length_append,size_zeroCells,Yk,sU,Yt]
            rw [←Nat.add_mul,←Nat.add_mul,Nat.add_sub_cancel' Rm]
            exact Nat.le_refl _
          · obtain ⟨v,g1,g2⟩:=NC.get _ d (eH qC hx hj)
            refine ⟨v,?_,g2⟩
            have gY:=(List.getElem?_eq_some_iff.1 g1).1
            simp only [xq]
            rw [Array.getElem?_append_left (by simpa using gY)]
            simpa using g1
          · obtain ⟨g1,g2,g3,g4,g5,g6,g7,g8⟩:=Rf e' he
            exact g8.mono HF (heap_alloc_old w.drew _ (hi.gz ho hl (.inr ⟨e',he,rfl⟩)))
        refine ⟨_,_,_,_,_,eR,k6,?_,c1,c2⟩
        exact .row (p:=p.grown w.heap.size gc xs.length) (by simp [b9.put]) (by simp [Place.grown,h1]) (by omega) Rm (fun _=>.inr ⟨by simp [Place.grown],by simp [Place.grown]⟩) fun e he ev=>by
          have:=((p.grown w.heap.size gc xs.length).kO e he).1
          simp only [Place.grown] at this
          omega
    · exact hk.elim
  | _=>exact hk.elim
theorem FP [aL] (hi:Inv κ h w) {v:Value} {d d':D} {h':aa} (r:bX κ w v d) (e:UX h d=some (d',h')):∃κ',Inv κ' h' w∧Ev κ h w κ' h' w∧bX κ' w v d':=by
  unfold UX at e
  split at e
  · cases e; exact ⟨κ,hi,Ev.refl κ h w,r⟩
  · rename_i q aP off len
    split at e
    · rename_i sz cur xs fU ho
      split at e
      · rename_i abL
        subst abL
        split at e
        · cases e; exact ⟨κ,hi,Ev.refl κ h w,r⟩
        · split at e
          · rename_i pP
            cases e
            cases r with
            | row hl hv hn dO ha lB=>
            rename_i cap p ad
            obtain ⟨p',hp,hr⟩:=hi.obj _ _ ho
            rw [hl] at hp
            cases hp
            obtain ⟨h1,lL,h2,h4,h3,h5,AW,h6,h9,Xa,Rf,QF⟩:=hr
            rw [←Xa] at pP
            obtain ⟨o,xI,Tk⟩:=List.mem_map.1 pP
            obtain ⟨rfl,rfl⟩:=Prod.mk.inj Tk
            obtain ⟨g1,g2,g3,g4,g5,g6,g7,g8⟩:=Rf o xI
            let p2:Place:={ blk:=o.blk,base:=0,aP:=p.aP+1,cap:=o.cap,sz:=p.sz,rc:=none,fU:=p.fU.filter fun e=>decide (e.aP≤o.aP),kO:=fun e he=>⟨Nat.lt_succ_of_lt (p.kO e (List.mem_filter.1 he).1).1,(p.kO e (List.mem_filter.1 he).1).2⟩ }
            have ple:qc p p2:=⟨fun e=>by omega,fun e he _=>(List.mem_filter.1 he).1,fun e he hv _=>absurd hv (Nat.ne_of_lt (p.kO e (List.mem_filter.1 he).1).1)⟩
            have le:Le κ w (κ.put q p2) w:=⟨fun b hb=>⟨hb,rfl⟩,fun j pj hj=>by
              by_cases K8:j=q
              · subst K8
                rw [hl] at hj
                cases hj
                exact ⟨p2,by simp [b9.put],Nat.le_succ _,fun e=>absurd e (Nat.succ_ne_self _),ple⟩
              · exact ⟨pj,by simp [b9.put,K8,hj],Nat.le_refl _,fun _=>rfl,qc.refl pj⟩⟩
            have mono:∀e∈p.fU,e.aP≤o.aP→e.len≤o.len:=fun e he hle=>by
              have key:∀{l:List Old},l.Pairwise (fun a b=>b.aP<a.aP∧b.len≤a.len)→o∈l→e∈l→e.len≤o.len:=by
                intro l hl
                induction hl with
                | nil=>intro x; cases x
                | cons hd _ ih=>
                  intro x y
                  cases x with
                  | head=>cases y with
                    | head=>exact Nat.le_refl _
                    | tail _ y=>exact (hd e y).2
                  | tail _ x=>cases y with
                    | head=>have:=(hd o x).1; omega
                    | tail _ y=>exact ih x y
              exact key QF xI he
            obtain ⟨c1,c2⟩:=hi.uB (p':=p2) ho hl rfl (o':=.fW sz (cur+1) (xs.take o.len) (fU.filter fun e=>decide (e.1≤o.aP))) rfl (w':=w) (Nat.le_refl _) (hi.gz ho hl (.inr ⟨o,xI,rfl⟩)) (fun b hb=>by
              rcases hb with hb | ⟨e,he,hb⟩
              · exact .inl (.inr ⟨o,xI,hb⟩)
              · exact .inl (.inr ⟨e,(List.mem_filter.1 he).1,hb⟩)) (Nat.le_succ _) (fun e=>absurd e (Nat.succ_ne_self _)) ple rfl rfl rfl (fun _ _ _=>rfl) (by
              refine ⟨by simp [p2,h1],by omega,h2,g4,rfl,by simp [p2]; omega,g6,fun x hx=>h6 x (List.mem_of_mem_take hx),g8.mono le rfl,?_,fun e he=>?_,QF.sublist List.filter_sublist⟩
              · rw [←Xa,List.filter_map]; rfl
              · obtain ⟨he1,he2⟩:=List.mem_filter.1 he
                have he3:e.aP≤o.aP:=by simpa using he2
                obtain ⟨k1,k2,k3,k4,k5,k6,k7,k8⟩:=Rf e he1
                have hml:=mono e he1 he3
                refine ⟨k1,by omega,k3,k4,k5,k6,by simp; omega,?_⟩
                rw [List.take_take,Nat.min_eq_left hml]
                exact k8.mono le rfl)
            refine ⟨_,c1,c2,.row (p:=p2) (by simp [b9.put]) (by simp [p2,h1]) hn dO (fun _=>?_) fun e he ev=>?_⟩
            · rcases lB o xI rfl with k | ⟨k1,k2⟩
              · exact .inl k
              · exact .inr ⟨by rw [k1]; simp [p2],by simpa [p2] using k2⟩
            · have:=(p2.kO e he).1
              simp only [p2] at this
              omega
          · cases e
      · cases e
    · cases e
  · cases e
theorem ve [aL]:∀{ds FT:List D} {κ:b9} {h h':aa} {f:Nat→Value},Inv κ h w→(∀i d,ds[i]? =some d→bX κ w (f i) d)→Q5 h ds=some (FT,h')→∃κ',Inv κ' h' w∧Ev κ h w κ' h' w∧FT.length=ds.length∧∀i d,FT[i]? =some d→bX κ' w (f i) d
  | [],FT,κ,h,h',f,hi,hr,e=>by
    cases e
    exact ⟨κ,hi,Ev.refl κ h w,rfl,fun i d hd=>by simp at hd⟩
  | d::ds,FT,κ,h,h',f,hi,hr,e=>by
    unfold Q5 at e
    split at e
    · rename_i d1 h1 e1
      split at e
      · rename_i ds2 h2 e2
        cases e
        obtain ⟨κ1,i1,v1,r1⟩:=FP hi (hr 0 d rfl) e1
        obtain ⟨κ2,i2,v2,l2,r2⟩:=ve (f:=fun i=>f (i+1)) i1 (fun i x hx=>(hr (i+1) x hx).mono (v1.le hi)) e2
        refine ⟨κ2,i2,v1.trans v2,by simp [l2],fun i x hx=>?_⟩
        cases i with
        | zero=>cases hx; exact r1.mono (v2.le i1)
        | succ i=>exact r2 i x hx
      · cases e
    · cases e
theorem FQ [aL] (hi:Inv κ h w) {v:Value} {d d':D} {h':aa} (r:bX κ w v d) (e:MV h d=some (d',h')):∃κ',Inv κ' h' w∧Ev κ h w κ' h' w∧bX κ' w v d':=by
  unfold MV at e
  split at e
  · split at e
    · rename_i ds FT h2 e2
      cases e
      cases r with
      | agg hs hr=>
      rename_i cs
      obtain ⟨κ1,i1,v1,l1,r1⟩:=ve (f:=fun i=>cs.getD i (.tuple #[])) hi hr e2
      exact ⟨κ1,i1,v1,.agg (by omega) r1⟩
    · cases e
  · cases e
end Go.Proofs.YtpklkpkfgmoghaaGreatDoor.Zz
