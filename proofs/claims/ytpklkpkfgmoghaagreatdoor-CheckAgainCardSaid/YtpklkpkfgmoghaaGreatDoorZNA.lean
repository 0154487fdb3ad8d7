/- What is handed to others; calls; all instructions. -/
import Derived.Test.YtpklkpkfgmoghaaGreatDoorZN
set_option linter.unnecessarySimpa false
set_option linter.unusedVariables false
set_option linter.unusedSimpArgs false
namespace Go.Proofs.YtpklkpkfgmoghaaGreatDoor.Zz
variable {P:Program} {κ:cT} {h:aa} {w:World} {σ:Fr} {n:Nat} {a:Act} {K E:D→aa→Prop}
theorem rU (h:aa) (r q:Nat):(fh h r).f q=if q=r then (match h.f r with | some (.row sz aY xs _)=>some (.row sz aY xs true) | o=>o) else h.f q:=by
 unfold fh
 by_cases e:q=r
 ·subst e
  rw [if_pos rfl]
  split
  ·rename_i sz aY xs fz ho
   simp [ho]
  ·rename_i yS
   cases ho:h.f q with
   | none=>rfl
   | some o=>
    cases o with
    | row sz aY xs fz=>exact absurd ho (yS sz aY xs fz)
    | _=>rfl
 ·rw [if_neg e]
  split
  ·simp [e]
  ·rfl
theorem wy [aT] (hi:Inv κ h w) (r:Nat):∃κ',Inv κ' (fh h r) w∧Ev κ h w κ' (fh h r) w:=by
 cases ho:h.f r with
 | none=> 
  have:fh h r=h:=by simp [fh,ho]
  rw [this]; exact ⟨κ,hi,Ev.refl κ h w⟩
 | some o=>
  cases o with
  | row sz aY xs fz=>
   have e:fh h r=h.set r (.row sz aY xs true):=by simp [fh,ho]
   rw [e]
   cases fz with
   | true=>
    have:h.set r (.row sz aY xs true)=h:=aa.ext fun q=>by
     simp only [aa.b9]
     split
     ·rename_i hq; subst hq; exact ho.symm
     ·rfl
    rw [this]
    exact ⟨κ,hi,Ev.refl κ h w⟩
   | false=>
    obtain ⟨κ',h1,h2,_⟩:=hi.freeze ho
    exact ⟨κ',h1,h2⟩
  | _=>
   have:fh h r=h:=by simp [fh,ho]
   rw [this]; exact ⟨κ,hi,Ev.refl κ h w⟩
def jD:D→List Nat
 | .row r _ _ _=>[r]
 | .agg ds=>ds.flatMap fun d=>match d with | .row r _ _ _=>[r] | _=>[]
 | _=>[]
theorem adW (h:aa) (d:D):hO h d=(jD d).foldl fh h:=by
 cases d with
 | row r aY off len=>rfl
 | agg ds=>
  simp only [hO,jD]
  induction ds generalizing h with
  | nil=>rfl
  | cons d ds ih=>
   simp only [List.foldl_cons,List.flatMap_cons,List.foldl_append]
   rw [ih]
   congr 1
   cases d<;>rfl
 | _=>rfl
theorem rV (h:aa) (ds:List D):fQ h ds=(ds.flatMap jD).foldl fh h:=by
 unfold fQ
 induction ds generalizing h with
 | nil=>rfl
 | cons d ds ih=>simp only [List.foldl_cons,List.flatMap_cons,List.foldl_append,ih,adW]
theorem Aq [aT] (hi:Inv κ h w) (rs:List Nat):∃κ',Inv κ' (rs.foldl fh h) w∧Ev κ h w κ' (rs.foldl fh h) w:=by
 induction rs generalizing κ h with
 | nil=>exact ⟨κ,hi,Ev.refl κ h w⟩
 | cons r rs ih=>
  obtain ⟨κ1,h1,e1⟩:=wy hi r
  obtain ⟨κ2,h2,e2⟩:=ih h1
  exact ⟨κ2,h2,e1.trans e2⟩
def ee (h h':aa):Prop:=∀r,(∀sz aY xs fz,h.f r=some (.row sz aY xs fz)→∃Ny,h'.f r=some (.row sz aY xs Ny)∧(fz=true→Ny=true))∧((∀sz aY xs fz,h.f r≠some (.row sz aY xs fz))→h'.f r=h.f r)
theorem ee.fh (h:aa) (r:Nat):ee h (fh h r):=fun q=>by
 rw [rU]
 constructor
 ·intro sz aY xs fz ho
  by_cases e:q=r
  ·subst e; rw [if_pos rfl,ho]; exact ⟨true,rfl,fun _=>rfl⟩
  ·rw [if_neg e]; exact ⟨fz,ho,id⟩
 ·intro yS
  by_cases e:q=r
  ·subst e
   rw [if_pos rfl]
   split
   ·rename_i sz aY xs fz ho; exact absurd ho (yS _ _ _ _)
   ·rfl
  ·rw [if_neg e]
theorem ee.refl (h:aa):ee h h:=fun r=>⟨fun _ _ _ fz e=>⟨fz,e,id⟩,fun _=>rfl⟩
theorem ee.trans {h h1 h2:aa} (a:ee h h1) (b:ee h1 h2):ee h h2:=fun r=>by
 constructor
 ·intro sz aY xs fz e
  obtain ⟨fz1,e1,l1⟩:=(a r).1 sz aY xs fz e
  obtain ⟨fz2,e2,l2⟩:=(b r).1 sz aY xs fz1 e1
  exact ⟨fz2,e2,fun x=>l2 (l1 x)⟩
 ·intro yS
  have e1:=(a r).2 yS
  rw [←e1]
  exact (b r).2 (by rw [e1]; exact yS)
theorem ee.U9 (h:aa) (rs:List Nat):ee h (rs.foldl Zz.fh h):=by
 induction rs generalizing h with
 | nil=>exact .refl h
 | cons r rs ih=>exact (ee.fh h r).trans (ih _)
theorem wC (h:aa) (rs:List Nat) {r:Nat} (hr:r∈rs) {sz aY:Nat} {xs:List (List D)} {fz:Bool} (ho:h.f r=some (.row sz aY xs fz)):(rs.foldl fh h).f r=some (.row sz aY xs true):=by
 induction rs generalizing h fz with
 | nil=>cases hr
 | cons q rs ih=>
  simp only [List.foldl_cons]
  by_cases e:r∈rs
  ·obtain ⟨Ny,e1,_⟩:=((ee.fh h q) r).1 sz aY xs fz ho
   exact ih _ e e1
  ·have hq:r=q:=by
    cases hr with
    | head=>rfl
    | tail _ hh=>exact absurd hh e
   subst hq
   have e1:(fh h r).f r=some (.row sz aY xs true):=by rw [rU,if_pos rfl,ho]
   obtain ⟨Ny,e2,l2⟩:=((ee.U9 (fh h r) rs) r).1 sz aY xs true e1
   rw [l2 rfl] at e2
   exact e2
def mv (h:aa):D→D
 | .aZ=>.sl []
 | .row r aY off len=>match h.f r with
  | some (.row sz cC xs fz)=>if aY=cC∧off+len≤xs.length then .sl ((xs.drop off).take len) else .undef
  | _=>.undef
 | d=>d
theorem l7 (h:aa) (ds:List D):plain h (.agg ds)=.agg (ds.map (mv h)):=by
 simp only [plain]
 congr 1
theorem oR (h:aa) (d:D) (hd:∀ds,d≠.agg ds):plain h d=mv h d:=by
 cases d<;>first | rfl | exact absurd rfl (hd _)
theorem wS {h h':aa} (s:ee h h') (d:D):mv h' d=mv h d:=by
 cases d with
 | row r aY off len=>
  simp only [mv]
  cases ho:h.f r with
  | none=>rw [(s r).2 (by simp [ho]),ho]
  | some o=>
   cases o with
   | row sz cC xs fz=>
    obtain ⟨Ny,e,_⟩:=(s r).1 sz cC xs fz ho
    rw [e]
   | _=>rw [(s r).2 (by simp [ho]),ho]
 | _=>rfl
theorem A2 {h h':aa} (s:ee h h') (d:D):plain h' d=plain h d:=by
 cases d with
 | agg ds=>rw [l7,l7]; congr 1; exact List.map_congr_left fun d _=>wS s d
 | _=>rw [oR _ _ (by simp),oR _ _ (by simp)]; exact wS s _
theorem pA [aT] (hi:Inv κ h w) {v:Value} {d:D} (r:cL κ w v d) (hf:∀q aY off len sz cC xs fz,d=.row q aY off len→h.f q=some (.row sz cC xs fz)→fz=true):cL κ w v (mv h d):=by
 cases d with
 | aZ=>cases r; exact .slnil fun _=>rfl
 | row q aY off len=>
  simp only [mv]
  split
  ·rename_i sz cC xs fz ho
   split
   ·rename_i hc
    obtain ⟨rfl,hle⟩:=hc
    have hfz:=hf q aY off len sz aY xs fz rfl ho
    subst hfz
    cases r with
    | row hl hv hn fu ha nZ=>
    rename_i cap p ad
    obtain ⟨p',hp,hr⟩:=hi.obj _ _ ho
    rw [hl] at hp
    cases hp
    obtain ⟨h1,ov,h2,h3,h4,h5,Fl,h6,cs,el,h7,h8,h9⟩:=hr
    have hlen:len=((xs.drop off).take len).length:=by simp; omega
    rcases ha h1 with ue | ⟨tf,mg⟩
    ·have vb:len=0:=by omega
     subst vb
     have lx:(xs.drop off).take 0=[]:=by simp
     rw [lx]
     exact .slnil fun e=>by cases e
    ·subst tf
     refine .I3 (sz:=sz) hlen (fun i j=>cs.getD (p.base+off*p.sz+i*sz+j) undef) (by rw [←hlen]; exact hn) (by rw [←hlen]; exact fu) (fun y hy=>h6 y (List.mem_of_mem_drop (List.mem_of_mem_take hy))) (fun i y j d hy hd=>?_) (fun i y j d hy hd=>?_)
     ·rw [List.getElem?_take] at hy
      split at hy
      ·rw [List.getElem?_drop] at hy
       obtain ⟨v,g1,g2⟩:=h9 _ y j d hy hd
       refine ⟨h3 rfl,?_⟩
       rw [cell_of_row w _ _ cs el _ h7,h2]
       have:p.base+off*sz+i*sz+j=p.base+(off+i)*sz+j:=by rw [Nat.add_mul]; omega
       rw [this,g1]
       simp [Array.getD_eq_getD_getElem?,g1]
      ·cases hy
     ·rw [List.getElem?_take] at hy
      split at hy
      ·rw [List.getElem?_drop] at hy
       obtain ⟨v,g1,g2⟩:=h9 _ y j d hy hd
       have:p.base+off*p.sz+i*sz+j=p.base+(off+i)*sz+j:=by rw [h2,Nat.add_mul]; omega
       simp only [this,Array.getD_eq_getD_getElem?,g1]
       exact g2
      ·cases hy
   ·exact .undef _
  ·exact .undef _
 | _=>exact r
theorem DP [aT] (hi:Inv κ h w) {v:Value} {d:D} (r:cL κ w v d) (hf:∀q∈jD d,∀sz aY xs fz,h.f q=some (.row sz aY xs fz)→fz=true):cL κ w v (plain h d):=by
 cases d with
 | agg ds=>
  rw [l7]
  cases r with
  | agg hs hr=>
  refine .agg (by simpa using hs) fun i d hd=>?_
  simp only [List.getElem?_map,Option.map_eq_some_iff] at hd
  obtain ⟨d0,h1,rfl⟩:=hd
  refine pA hi (hr i d0 h1) fun q aY off len sz cC xs fz e ho=>?_
  subst e
  exact hf q (by simp only [jD,List.mem_flatMap]; exact ⟨_,List.mem_of_getElem? h1,by simp⟩) sz cC xs fz ho
 | row q aY off len=>
  rw [oR _ _ (by simp)]
  exact pA hi r fun q' _ _ _ sz cC xs fz e ho=>by cases e; exact hf q (by simp [jD]) sz cC xs fz ho
 | _=>
  rw [oR _ _ (by simp)]
  exact pA hi r fun _ _ _ _ _ _ _ _ e _=>by cases e
theorem ky [aT] (hi:Inv κ h w) {vs:List Value} {ds:List D} (r:cn κ w vs ds):∃κ',Inv κ' (fQ h ds) w∧Ev κ h w κ' (fQ h ds) w∧cn κ' w vs (ds.map (plain h)):=by
 rw [rV]
 obtain ⟨κ',h1,e1⟩:=Aq hi (ds.flatMap jD)
 refine ⟨κ',h1,e1,cn.qP (by simpa using r.length) fun i d hd=>?_⟩
 simp only [List.getElem?_map,Option.map_eq_some_iff] at hd
 obtain ⟨d0,h2,rfl⟩:=hd
 obtain ⟨v,g1,g2⟩:=r.get i d0 h2
 refine ⟨v,g1,?_⟩
 have same:=ee.U9 h (ds.flatMap jD)
 rw [←A2 same]
 refine DP h1 (g2.mono (e1.le hi)) fun q hq sz aY xs fz ho=>?_
 cases qI:h.f q with
 | none=>rw [(same q).2 (by simp [qI]),qI] at ho; cases ho
 | some o=>
  cases o with
  | row jy cC xs' Ny=>
   have:=wC h (ds.flatMap jD) (List.mem_flatMap.2 ⟨d0,List.mem_of_getElem? h2,hq⟩) qI
   rw [this] at ho
   cases ho
   rfl
  | _=>rw [(same q).2 (by simp [qI]),qI] at ho; cases ho
theorem Inv.aff [aT] (hi:Inv κ h w) {r sz aY:Nat} {xs xs':List (List D)} {fz:Bool} {p:Place} (ho:h.f r=some (.row sz aY xs fz)) (hp:κ.loc r=some p) (hr:iN κ w p (.row sz aY xs' fz)):
  Inv κ (h.set r (.row sz aY xs' fz)) w∧Ev κ h w κ (h.set r (.row sz aY xs' fz)) w:=by
 have back:∀i o,(h.set r (.row sz aY xs' fz)).f i=some o→∃o0,h.f i=some o0∧o0.live=o.live∧∀q,κ.loc i=some q→∀b,Own o q b→Own o0 q b:=fun i o e=>by
  simp only [aa.b9] at e
  split at e
  ·rename_i e1
   subst e1
   cases e
   exact ⟨_,ho,rfl,fun q _ b hb=>hb⟩
  ·exact ⟨o,e,rfl,fun _ _ _ hb=>hb⟩
 refine ⟨⟨hi.gM,hi.jV,hi.fresh,fun i o e=>?_,fun i j oi oj pi pj b ei ej li lj qi qj B7 HG=>?_,hi.mN⟩,{ Ev.refl κ h w with own:=fun b _ hb=>?_,ids:=fun id q hq hn=>?_ }⟩
 ·simp only [aa.b9] at e
  split at e
  ·rename_i e1
   subst e1
   cases e
   exact ⟨p,hp,hr⟩
  ·exact hi.obj i o e
 ·obtain ⟨o1,a1,a2,a3⟩:=back i oi ei
  obtain ⟨o2,b1,b2,b3⟩:=back j oj ej
  exact hi.inj i j o1 o2 pi pj b a1 b1 (a2.trans li) (b2.trans lj) qi qj (a3 pi qi b B7) (b3 pj qj b HG)
 ·obtain ⟨i,o1,q,h1,h2,h3,h4⟩:=hb
  obtain ⟨o0,a1,a2,a3⟩:=back i o1 h1
  exact ⟨i,o0,q,a1,a2.trans h2,h3,a3 q h3 b h4⟩
 ·have:id≠r:=fun e=>by subst e; rw [ho] at hn; cases hn
  simp [this,hn]
theorem FA {α β:Type} {f:α→β} {l:List (List α)} {i j:Nat} {x:List β} {d:β} (hx:(l.map (List.map f))[i]? =some x) (hj:x[j]? =some d):∃y e,l[i]? =some y∧y[j]? =some e∧f e=d:=by
 rw [List.getElem?_map,Option.map_eq_some_iff] at hx
 obtain ⟨y,hy,rfl⟩:=hx
 rw [List.getElem?_map,Option.map_eq_some_iff] at hj
 obtain ⟨e,he,rfl⟩:=hj
 exact ⟨y,e,hy,he,rfl⟩
theorem FH [aT] (hi:Inv κ h w) {v:Value} {d:D} (r:cL κ w v d):∃κ',Inv κ' (Ff h d) w∧Ev κ h w κ' (Ff h d) w∧cL κ' w v (tv h d):=by
 have one:∃κ',Inv κ' (hO h d) w∧Ev κ h w κ' (hO h d) w∧cL κ' w v (plain h d):=by
  obtain ⟨κ',a1,a2,a3⟩:=ky hi (.cons r .nil:cn κ w [v] [d])
  refine ⟨κ',a1,a2,?_⟩
  cases a3 with
  | cons a _=>exact a
 cases d with
 | row q aY off len=>
  simp only [Ff,tv]
  cases ho:h.f q with
  | none=>exact ⟨κ,hi,Ev.refl κ h w,.undef _⟩
  | some o=>
   cases o with
   | row sz cC xs fz=>
    simp only
    obtain ⟨p,hp,hr⟩:=hi.obj q _ ho
    obtain ⟨κ1,i1,Fe,same,LH⟩:∃κ1,Inv κ1 (fQ h xs.flatten) w∧Ev κ h w κ1 (fQ h xs.flatten) w∧ee h (fQ h xs.flatten)∧∀(v:Value) (d:D),d∈xs.flatten→cL κ w v d→cL κ1 w v (plain h d):=by
     rw [rV]
     obtain ⟨κ',h1,e1⟩:=Aq hi (xs.flatten.flatMap jD)
     have same:=ee.U9 h (xs.flatten.flatMap jD)
     refine ⟨κ',h1,e1,same,fun v d hd rv=>?_⟩
     rw [←A2 same]
     refine DP h1 (rv.mono (e1.le hi)) fun q hq sz aY xs' fz hoq=>?_
     cases qI:h.f q with
     | none=>rw [(same q).2 (by simp [qI]),qI] at hoq; cases hoq
     | some o=>
      cases o with
      | row jy cC arI Ny=>
       have:=wC h (xs.flatten.flatMap jD) (List.mem_flatMap.2 ⟨d,hd,hq⟩) qI
       rw [this] at hoq
       cases hoq
       rfl
      | _=>rw [(same q).2 (by simp [qI]),qI] at hoq; cases hoq
    obtain ⟨fz1,ti,_⟩:=(same q).1 sz cC xs fz ho
    obtain ⟨p1,hp1,hr1⟩:=i1.obj q _ ti
    have hpp:p1=p:=by
     obtain ⟨p',k1,k2,k3,_⟩:=Fe.loc q p hp
     rw [hp1] at k1
     cases k1
     exact k3 (by have:=hr.1; have:=hr1.1; omega)
    subst hpp
    obtain ⟨i2,ev2⟩:=i1.aff (xs':=xs.map (List.map (plain h))) ti hp1 (by
     obtain ⟨h1,ov,h2,h3,h4,h5,Fl,h6,cs,el,h7,h8,h9⟩:=hr1
     obtain ⟨_,_,_,_,_,_,_,_,cs0,el0,g7,_,g9⟩:=hr
     rw [g7] at h7
     cases h7
     refine ⟨h1,ov,h2,h3,h4,by simpa using h5,Fl,fun x hx=>?_,cs,el,g7,h8,fun i x j d hx hj=>?_⟩
     ·obtain ⟨y,hy,rfl⟩:=List.mem_map.1 hx
      simpa using h6 y hy
     ·obtain ⟨y,e,hy,he,rfl⟩:=FA hx hj
      obtain ⟨v,k1,k2⟩:=g9 i y j e hy he
      exact ⟨v,k1,LH v e (List.mem_flatten.2 ⟨y,List.mem_of_getElem? hy,List.mem_of_getElem? he⟩) k2⟩)
    obtain ⟨κ3,i3,ev3⟩:=wy i2 q
    have e3:fh ((fQ h xs.flatten).set q (.row sz cC (xs.map (List.map (plain h))) fz1)) q=(fQ h xs.flatten).set q (.row sz cC (xs.map (List.map (plain h))) true):=by
     simp [fh,aa.set_set]
    rw [e3] at i3 ev3
    have ev:=(Fe.trans ev2).trans ev3
    refine ⟨κ3,i3,ev,?_⟩
    have:=pA i3 (r.mono (ev.le hi)) fun q' _ _ _ sz2 arF xs2 fz2 e TH=>by
     cases e
     simp at TH
     exact TH.2.2.2▸rfl
    simpa [mv] using this
   | _=>exact ⟨κ,hi,Ev.refl κ h w,.undef _⟩
 | _=>exact one
theorem iY {f:FuncId} {args:Array Value} (hc:gK P f=true) (w:World):(callFunc f args).run P w=.ok (.enter f args) w:=by
 unfold gK at hc
 split at hc
 ·rename_i fn hfn
  simp only [Bool.and_eq_true,Bool.not_eq_true'] at hc
  obtain ⟨h1,h2⟩:=hc
  have h3:fn.body.isNone=false:=by
   cases hb:fn.body<;>simp [hb] at h2 ⊢
  simp only [callFunc,Sem.run_bind,run_program,Result.andThen,hfn]
  rw [if_neg (by rw [h1]; simp),if_neg (by rw [h3]; simp)]
  rfl
 ·cases hc
theorem Calls.toA [aT] {f:FuncId} {vs:Array Value} {args:List D} {R:cY→aa→Prop} (hc:aH P f args h R) (hi:Inv κ h w) (r:cn κ w vs.toList args):
  Calls P f vs w fun e w'=>∃o h' κ',R o h'∧lh κ' w' o e∧Inv κ' h' w'∧Ev κ h w κ' h' w':=hc.2 κ w vs hi r
end Go.Proofs.YtpklkpkfgmoghaaGreatDoor.Zz
namespace Go.Proofs.YtpklkpkfgmoghaaGreatDoor.Zz
variable {P:Program} {κ:cT} {h:aa} {w:World} {K E:D→aa→Prop}
theorem mU.write {κ':cT} {b sz cap m:Nat} {xs:List (List D)} {cs:Array Value} {ty:TypeId} {news:List Value} (r:mU κ w b sz cap xs) (hb:w.heap[b]? =some (.cells cs ty (0,0))) (qd:∀x∈xs,x.length=sz)
    (hm:xs.length≤m) (yq:m*sz+news.length≤cs.toList.length) (le:Le κ w κ' (w.setRow b (cs.toList.take (m*sz)++news++cs.toList.drop (m*sz+news.length)).toArray)):
    mU κ' (w.setRow b (cs.toList.take (m*sz)++news++cs.toList.drop (m*sz+news.length)).toArray) b sz cap xs:=by
  obtain ⟨cs0,t0,h1,h2,h3⟩:=r
  rw [hb] at h1
  cases h1
  refine ⟨_,ty,setRow_heap w b cs _ ty (0,0) hb,?_,fun i x j d hx hj=>?_⟩
  · simp only [List.size_toArray,List.length_append,List.length_take,List.length_drop,Array.length_toList] at yq ⊢
    omega
  · obtain ⟨v,g1,g2⟩:=h3 i x j d hx hj
    refine ⟨v,?_,g2.mono le⟩
    have yr:j<sz:=by rw [←qd x (List.mem_of_getElem? hx)]; exact (List.getElem?_eq_some_iff.1 hj).1
    have mI:=(List.getElem?_eq_some_iff.1 hx).1
    have:i*sz+sz≤m*sz:=by
      calc i*sz+sz=(i+1)*sz:=by rw [Nat.add_mul,Nat.one_mul]
        _≤m*sz:=Nat.mul_le_mul_right _ (by omega)
    simp only [List.getElem?_toArray]
    rw [j7 _ _ _ _ yq,if_neg (by omega)]
    simpa using g1
theorem Ia [aT] (hi:Inv κ h w) (t:TypeId) {cs:Array Value} {xs:List (List D)} {sz cap:Nat} (qd:∀x∈xs,x.length=sz) (fu:xs.length≤cap) (NF:cap≤9223372036854775807) (yq:cap*sz≤cs.size)
    (hr:∀(i:Nat) (x:List D) (j:Nat) (d:D),xs[i]? =some x→x[j]? =some d→∃v,cs[i*sz+j]? =some v∧cL κ w v d)
    (hk:∀id,h.f id=none→K (.row id 2 0 xs.length) (h.set id (.dz sz 2 xs []))):
    ∃κ' h' d,K d h'∧cL κ' (w.alloc (.cells cs t)) (.slice (some ⟨w.heap.size,0,none⟩) xs.length cap) d∧Inv κ' h' (w.alloc (.cells cs t))∧Ev κ h w κ' h' (w.alloc (.cells cs t)):=by
  obtain ⟨id,hid,hf⟩:=hi.vO
  let p:Place:={ blk:=w.heap.size,base:=0,aY:=2,cap,sz,rc:=none }
  have le:=Le.alloc (κ:=κ) hi (.cells cs t) hid p
  obtain ⟨i1,e1⟩:=hi.alloc hid hf (.cells cs t) (.dz sz 2 xs []) p rfl rfl rfl ⟨rfl,Nat.le_refl _,rfl,fun hx=>by have:=hi.gM _ hx; simp [p] at this,rfl,fu,NF,qd,⟨cs,t,dZ w _,by simpa [p] using yq,fun i x j d hx hj=>by
    obtain ⟨v,g1,g2⟩:=hr i x j d hx hj
    exact ⟨v,g1,g2.mono le⟩⟩,rfl,(by simp [p]),(by simp [p])⟩
  exact ⟨_,_,_,hk id hf,.row (p:=p) (by simp [cT.put]) (Nat.le_refl _) (by omega) fu (fun _=>.inr ⟨by simp [p],by simp [p]⟩) (by simp [p]),i1,e1⟩
def Place.grown (p:Place) (blk cap len:Nat):Place:=
  { blk,base:=0,aY:=p.aY+1,cap,sz:=p.sz,rc:=none,du:=⟨p.aY,p.blk,p.cap,p.sz,len⟩::p.du,ng:=by
      intro e he
      cases he with
      | head=>exact ⟨Nat.lt_succ_self _,rfl⟩
      | tail _ he=>exact ⟨Nat.lt_succ_of_lt (p.ng e he).1,(p.ng e he).2⟩ }
theorem tN.grown {p:Place} {blk cap len:Nat} (h2:2≤p.aY) (hb:p.base=0):tN p (p.grown blk cap len) where
  one:=fun e=>by omega
  lt:=fun e he hv=>by
    cases he with
    | head=>exact absurd hv (Nat.lt_irrefl _)
    | tail _ he=>exact he
  eq:=fun e he hv hn=>by
    cases he with
    | head=>exact ⟨hb,rfl,rfl,rfl⟩
    | tail _ he=>exact absurd hv (Nat.ne_of_lt (p.ng e he).1)
theorem BZ [aT] (hi:Inv κ h w) {t tx ty e:TypeId} {sz lu:Nat} {z:D} (ht:P.underlying t=some (.slice e)) (hs:cw P e=some sz) (hb:ji P e=some lu) (hz:ic P e=some z) (YH:(cellsD z).length=sz) (jN:0<sz)
    {s u:Value} {ds x:D} (rs:cL κ w s ds) {ys:List (List D)} (hy:∀y∈ys,y.length=sz∧y.all bX=true) (HI:0<lu) {news:List Value} (nP:Src P sz tx u ys.length news w) (Vr:cn κ w news ys.flatten) (lx:ys≠[])
    (hk:match ds with
       | .aZ=>ys.length*lu≤140737488355328∧∀id,h.f id=none→K (.row id 2 0 ys.length) (h.set id (.dz sz 2 ys []))
       | .row r aY off len=>match h.f r with
         | some (.dz jy cC xs du)=>aY=cC∧jy=sz∧off=0∧len=xs.length∧(xs.length+ys.length)*lu≤140737488355328∧
             K (.row r (aY+1) 0 (len+ys.length)) (h.set r (.dz sz (aY+1) (xs++ys) ((aY,len)::du)))
         | _=>False
       | _=>False):
    ∃v w' κ' h' d,(Builtin.append_ #[t,tx] ty #[s,u]).run P w=.ok v w'∧K d h'∧cL κ' w' v d∧Inv κ' h' w'∧Ev κ h w κ' h' w':=by
  obtain ⟨i,i1,i2⟩:=rp hs
  obtain ⟨zv,z1,z2,i',i3,i4⟩:=kF hz κ w
  rw [i1] at i3
  cases i3
  have hby:i.bytes=lu:=by
    unfold ji at hb
    rw [i1] at hb
    simpa using hb
  subst i2
  have hzs:zv.cells.size=i.size:=by
    have:=z2.length
    simp at this
    omega
  have wD:news.length=ys.length*i.size:=nP.newsLen
  have hpl:0<ys.length:=List.length_pos_iff.2 lx
  cases ds with
  | aZ=>
    cases rs
    obtain ⟨k2,k3⟩:=hk
    have hle:ys.length≤140737488355328:=Nat.le_trans (Nat.le_mul_of_pos_right _ HI) k2
    have gm:=run_append_grow_src (P:=P) w t tx ty e i zv ht i1 i4 none 0 0 [] (by rw [run_firstCells_none]) u ys.length news nP (by omega) (by omega) (by
      rw [hby,Nat.zero_add]
      exact growslice_fits (by omega) k2)
    simp only [Nat.zero_add,List.nil_append] at gm
    have fu:=grownCap_ge w ys.length 0 e
    have HJ:=grownCap_le_maxLen w ys.length 0 e (by simp only [maxLen]; omega)
    simp only [maxLen] at HJ
    have mI:Inv κ h w.drew:=hi.of_heap rfl
    have Vs:=Vr.mono (Le.of_heap (κ:=κ) (w:=w) (w':=w.drew) rfl)
    obtain ⟨κ',h',d,a1,a2,a3,a4⟩:=Ia (K:=K) mI e (cs:=news.toArray++Builtin.zeroCells zv.cells (grownCap w ys.length 0 e - ys.length)) (xs:=ys) (sz:=i.size) (cap:=grownCap w ys.length 0 e)
      (fun y hh=>(hy y hh).1) fu HJ (by
        simp only [Array.size_append,List.size_toArray,size_zeroCells,wD,hzs]
        rw [←Nat.add_mul,Nat.add_sub_cancel' fu]; exact Nat.le_refl _)
      (fun i1 x j d hx hj=>by
        obtain ⟨v,g1,g2⟩:=Vs.get _ d (fZ (fun y hh=>(hy y hh).1) hx hj)
        refine ⟨v,?_,g2⟩
        have ig:=(List.getElem?_eq_some_iff.1 g1).1
        rw [Array.getElem?_append_left (by simpa using ig)]
        simpa using g1)
      k3
    exact ⟨_,_,κ',h',d,gm,a1,a2,a3,Ev.drew.trans a4⟩
  | row r aY off len=>
    simp only at hk
    split at hk
    · rename_i jy cC xs du ho
      obtain ⟨k1,k2,k3,k4,k5,k6⟩:=hk
      subst k1 k2 k3 k4
      cases rs with
      | row hl hv hn fu ha nZ=>
      rename_i cap p ad
      obtain ⟨p',hp,hr⟩:=hi.obj _ _ ho
      rw [hl] at hp
      cases hp
      obtain ⟨h1,ov,h2,h4,h3,h5,Fl,h6,⟨cs,el,h7,h8,h9⟩,h10,Zr,h12⟩:=hr
      have hle:xs.length+ys.length≤140737488355328:=Nat.le_trans (Nat.le_mul_of_pos_right _ HI) k5
      have ug:∀y∈xs++ys,y.length=i.size:=fun y hh=>by
        rcases List.mem_append.1 hh with hh | hh
        · exact h6 y hh
        · exact (hy y hh).1
      have Sz:∀n,n≤xs.length→(xs++ys).take n=xs.take n:=fun n hn=>by rw [List.take_append_of_le_length hn]
      have close:∀(blk gc:Nat) (w':World),w.heap.size≤w'.heap.size→blk<w'.heap.size→(blk=p.blk∨w.heap.size≤blk)→w'.os=w.os→w'.tape=w.tape→w'.output=w.output→
          (∀b,b<w.heap.size→b≠p.blk→w'.heap[b]? =w.heap[b]?)→xs.length+ys.length≤gc→gc≤9223372036854775807→
          (∀κ',κ'=κ.put r (p.grown blk gc xs.length)→Le κ w κ' w'→mU κ' w' blk i.size gc (xs++ys)∧mU κ' w' p.blk i.size p.cap xs∧∀e∈p.du,mU κ' w' e.blk i.size e.cap (xs.take e.len))→
          Inv (κ.put r (p.grown blk gc xs.length)) (h.set r (.dz i.size (aY+1) (xs++ys) ((aY,xs.length)::du))) w'∧Ev κ h w (κ.put r (p.grown blk gc xs.length)) (h.set r (.dz i.size (aY+1) (xs++ys) ((aY,xs.length)::du))) w':=fun blk gc w' q1 q2 q3 q4 q5 q6 q7 q8 q9 q10=>by
        have hle:Le κ w (κ.put r (p.grown blk gc xs.length)) w':=by
          refine ⟨fun b hb=>⟨hb,q7 b (hi.gM b hb) fun eb=>h4 (eb▸hb)⟩,fun q pq hq=>?_⟩
          by_cases hqr:q=r
          · subst hqr
            rw [hl] at hq
            cases hq
            exact ⟨p.grown blk gc xs.length,by simp [cT.put],Nat.le_succ _,fun e=>absurd e (Nat.succ_ne_self _),tN.grown (by omega) h3⟩
          · exact ⟨pq,by simp [cT.put,hqr,hq],Nat.le_refl _,fun _=>rfl,tN.refl pq⟩
        obtain ⟨r1,r2,r3⟩:=q10 _ rfl hle
        refine hi.yM ho hl rfl (o':=.dz i.size (aY+1) (xs++ys) ((aY,xs.length)::du)) rfl q1 q2 (fun b nZ=>?_) (Nat.le_succ _) (fun e=>absurd e (Nat.succ_ne_self _)) (tN.grown (by omega) h3) q4 q5 q6 (fun b hb yS=>q7 b hb fun eb=>yS (eb▸Own.self)) ?_
        · rcases nZ with nZ | ⟨e,he,nZ⟩
          · rcases q3 with q3 | q3
            · exact .inl (.inl (q3▸nZ))
            · exact .inr (nZ▸q3)
          · cases he with
            | head=>exact .inl (.inl nZ)
            | tail _ he=>exact .inl (.inr ⟨e,he,nZ⟩)
        · refine ⟨by simp [Place.grown,h1],by omega,h2,fun hx=>?_,rfl,by simpa [Place.grown] using q8,q9,ug,r1,?_,fun e he=>?_,?_⟩
          · rcases q3 with q3 | q3
            · exact h4 (q3▸hx)
            · have:=hi.gM _ hx
              simp only [Place.grown] at this
              omega
          · simp [Place.grown,h10,h1]
          · cases he with
            | head=>exact ⟨by show 2≤p.aY; omega,by show p.aY<aY+1; omega,h2,h4,h5,Fl,by simp,by simpa using r2⟩
            | tail _ he=>
              obtain ⟨g1,g2,g3,g4,g5,g6,g7,g8⟩:=Zr e he
              exact ⟨g1,by omega,g3,g4,g5,g6,by simp; omega,by rw [Sz _ g7]; exact r3 e he⟩
          · refine List.pairwise_cons.2 ⟨fun e he=>?_,h12⟩
            obtain ⟨g1,g2,g3,g4,g5,g6,g7,g8⟩:=Zr e he
            exact ⟨(p.ng e he).1,g7⟩
      by_cases uf:xs.length+ys.length≤cap
      · -- there is room: in place
        rcases ha h1 with ue | ⟨tf,mg⟩
        · omega
        · simp only [Nat.zero_mul,Nat.add_zero,Nat.zero_add,h3] at tf mg
          subst tf
          have LM:(xs.length+ys.length)*i.size≤cs.size:=by
            have:(xs.length+ys.length)*i.size≤p.cap*i.size:=Nat.mul_le_mul_right _ (by omega)
            omega
          rw [Nat.add_mul] at LM
          have gm:=lG (P:=P) (w:=w) (ty:=ty) ht i1 h7 nP uf (off:=0) (by omega)
          simp only [Nat.zero_add] at gm
          have yq:xs.length*i.size+news.length≤cs.toList.length:=by simp; omega
          obtain ⟨c1,c2⟩:=close p.blk p.cap (w.setRow p.blk (cs.toList.take (xs.length*i.size)++news++cs.toList.drop (xs.length*i.size+news.length)).toArray) (by simp) (by simpa using hi.jV r p hl) (.inl rfl) rfl rfl rfl (fun b _ hb=>setRow_other w p.blk b _ hb) (by omega) Fl fun κ' hκ NP=>by
            refine ⟨?_,mU.write ⟨cs,el,h7,h8,h9⟩ h7 h6 (Nat.le_refl _) yq NP,fun e he=>?_⟩
            · refine ⟨_,el,setRow_heap w p.blk cs _ el (0,0) h7,?_,fun q x j d hx hj=>?_⟩
              · simp only [List.size_toArray,List.length_append,List.length_take,List.length_drop,Array.length_toList]
                omega
              · simp only [List.getElem?_toArray]
                rw [j7 _ _ _ _ yq]
                have yr:j<i.size:=by rw [←ug x (List.mem_of_getElem? hx)]; exact (List.getElem?_eq_some_iff.1 hj).1
                by_cases hq:q<xs.length
                · rw [List.getElem?_append_left hq] at hx
                  obtain ⟨v,g1,g2⟩:=h9 _ _ _ _ hx hj
                  have:q*i.size+i.size≤xs.length*i.size:=by
                    calc q*i.size+i.size=(q+1)*i.size:=by rw [Nat.add_mul,Nat.one_mul]
                      _≤xs.length*i.size:=Nat.mul_le_mul_right _ hq
                  rw [if_neg (by omega)]
                  exact ⟨v,by simpa using g1,g2.mono NP⟩
                · rw [List.getElem?_append_right (by omega)] at hx
                  obtain ⟨v,g1,g2⟩:=Vr.get _ d (fZ (fun y hh=>(hy y hh).1) hx hj)
                  have ad_:=(List.getElem?_eq_some_iff.1 g1).1
                  have hqq:q*i.size=xs.length*i.size+(q - xs.length)*i.size:=by rw [←Nat.add_mul]; congr 1; omega
                  rw [if_pos (by omega)]
                  refine ⟨v,?_,g2.mono NP⟩
                  rw [←g1]
                  congr 1
                  omega
            · obtain ⟨g1,g2,g3,g4,g5,g6,g7,g8⟩:=Zr e he
              by_cases eb:e.blk=p.blk
              · rw [eb] at g8 ⊢
                exact mU.write g8 h7 (fun x hx=>h6 x (List.mem_of_mem_take hx)) (by simp; omega) yq NP
              · exact g8.mono NP (setRow_other w p.blk e.blk _ eb)
          refine ⟨_,_,_,_,_,gm,k6,?_,c1,c2⟩
          exact .row (p:=p.grown p.blk p.cap xs.length) (by simp [cT.put]) (by simp [Place.grown,h1]) (by omega) uf (fun _=>.inr ⟨by simp [Place.grown],by simp [Place.grown]; omega⟩) fun e he ev=>by
            have:=((p.grown p.blk p.cap xs.length).ng e he).1
            simp only [Place.grown] at this
            omega
      · -- there is none: a new block
        have ah2:Le κ w κ w.drew:=Le.of_heap rfl
        have hold:∃mP:List Value,(Builtin.firstCells i.size xs.length (.slice (some ad) xs.length cap)).run P w.drew=.ok mP.toArray w.drew∧cn κ w mP xs.flatten:=by
          rcases ha h1 with ue | ⟨tf,mg⟩
          · have yu:xs=[]:=List.eq_nil_of_length_eq_zero (by omega)
            subst yu
            exact ⟨[],by rw [run_firstCells_some w.drew i.size _ ad _ cap [] (by simp) (by simp)],.nil⟩
          · simp only [Nat.zero_mul,Nat.add_zero,h3] at tf
            subst tf
            obtain ⟨mP,n1,n2,n3⟩:=s7 (κ:=κ) (w:=w) (b:=p.blk) (o:=0) h6 jN fun q y j d hq hj=>by
              obtain ⟨v,g1,g2⟩:=h9 q y j d hq hj
              exact ⟨v,by rw [cell_of_row w _ _ cs el _ h7,Nat.zero_add]; exact g1,g2⟩
            exact ⟨mP,run_firstCells_some w.drew i.size _ _ _ cap mP n2 (fun j v hv=>by rw [eM]; exact n3 j v hv),n1⟩
        obtain ⟨mP,o1,o2⟩:=hold
        have hol:mP.length=xs.length*i.size:=by rw [o2.length,eZ h6]
        have gm:=run_append_grow_src (P:=P) w t tx ty e i zv ht i1 i4 (some ad) xs.length cap mP o1 u ys.length news nP (by omega) (by omega) (by
          rw [hby]
          exact growslice_fits (by omega) k5)
        have Zw:=grownCap_ge w (xs.length+ys.length) cap e
        have hgm:=grownCap_le_maxLen w (xs.length+ys.length) cap e (by simp only [maxLen]; omega)
        simp only [maxLen] at hgm
        generalize grownCap w (xs.length+ys.length) cap e=gc at gm Zw hgm
        let BR:Array Value:=(mP++news).toArray++Builtin.zeroCells zv.cells (gc - (xs.length+ys.length))
        obtain ⟨c1,c2⟩:=close w.heap.size gc (w.drew.alloc (.cells BR e)) (by simp) (by simp) (.inr (Nat.le_refl _)) rfl rfl rfl (fun b hb _=>heap_alloc_old w.drew _ hb) Zw hgm fun κ' hκ NP=>by
          have Vt:=(o2.append Vr).mono NP
          rw [←List.flatten_append] at Vt
          refine ⟨⟨BR,e,dZ w.drew _,?_,fun q x j d hx hj=>?_⟩,mU.mono ⟨cs,el,h7,h8,h9⟩ NP (heap_alloc_old w.drew _ (hi.jV r p hl)),fun e' he=>?_⟩
          · simp only [BR,Array.size_append,List.size_toArray,List.length_append,size_zeroCells,hol,wD,hzs]
            rw [←Nat.add_mul,←Nat.add_mul,Nat.add_sub_cancel' Zw]
            exact Nat.le_refl _
          · obtain ⟨v,g1,g2⟩:=Vt.get _ d (fZ ug hx hj)
            refine ⟨v,?_,g2⟩
            have ig:=(List.getElem?_eq_some_iff.1 g1).1
            simp only [BR]
            rw [Array.getElem?_append_left (by simpa using ig)]
            simpa using g1
          · obtain ⟨g1,g2,g3,g4,g5,g6,g7,g8⟩:=Zr e' he
            exact g8.mono NP (heap_alloc_old w.drew _ (hi.je ho hl (.inr ⟨e',he,rfl⟩)))
        refine ⟨_,_,_,_,_,gm,k6,?_,c1,c2⟩
        exact .row (p:=p.grown w.heap.size gc xs.length) (by simp [cT.put]) (by simp [Place.grown,h1]) (by omega) Zw (fun _=>.inr ⟨by simp [Place.grown],by simp [Place.grown]⟩) fun e he ev=>by
          have:=((p.grown w.heap.size gc xs.length).ng e he).1
          simp only [Place.grown] at this
          omega
    · exact hk.elim
  | _=>exact hk.elim
theorem Lr [aT] (hi:Inv κ h w) {v:Value} {d d':D} {h':aa} (r:cL κ w v d) (e:E8 h d=some (d',h')):∃κ',Inv κ' h' w∧Ev κ h w κ' h' w∧cL κ' w v d':=by
  unfold E8 at e
  split at e
  · cases e; exact ⟨κ,hi,Ev.refl κ h w,r⟩
  · rename_i q aY off len
    split at e
    · rename_i sz cur xs du ho
      split at e
      · rename_i alR
        subst alR
        split at e
        · cases e; exact ⟨κ,hi,Ev.refl κ h w,r⟩
        · split at e
          · rename_i th
            cases e
            cases r with
            | row hl hv hn fu ha nZ=>
            rename_i cap p ad
            obtain ⟨p',hp,hr⟩:=hi.obj _ _ ho
            rw [hl] at hp
            cases hp
            obtain ⟨h1,ov,h2,h4,h3,h5,Fl,h6,h9,h10,Zr,h12⟩:=hr
            rw [←h10] at th
            obtain ⟨o,ti,TH⟩:=List.mem_map.1 th
            obtain ⟨rfl,rfl⟩:=Prod.mk.inj TH
            obtain ⟨g1,g2,g3,g4,g5,g6,g7,g8⟩:=Zr o ti
            let p2:Place:={ blk:=o.blk,base:=0,aY:=p.aY+1,cap:=o.cap,sz:=p.sz,rc:=none,du:=p.du.filter fun e=>decide (e.aY≤o.aY),ng:=fun e he=>⟨Nat.lt_succ_of_lt (p.ng e (List.mem_filter.1 he).1).1,(p.ng e (List.mem_filter.1 he).1).2⟩ }
            have ple:tN p p2:=⟨fun e=>by omega,fun e he _=>(List.mem_filter.1 he).1,fun e he hv _=>absurd hv (Nat.ne_of_lt (p.ng e (List.mem_filter.1 he).1).1)⟩
            have le:Le κ w (κ.put q p2) w:=⟨fun b hb=>⟨hb,rfl⟩,fun j pj hj=>by
              by_cases Sw:j=q
              · subst Sw
                rw [hl] at hj
                cases hj
                exact ⟨p2,by simp [cT.put],Nat.le_succ _,fun e=>absurd e (Nat.succ_ne_self _),ple⟩
              · exact ⟨pj,by simp [cT.put,Sw,hj],Nat.le_refl _,fun _=>rfl,tN.refl pj⟩⟩
            have mono:∀e∈p.du,e.aY≤o.aY→e.len≤o.len:=fun e he hle=>by
              have key:∀{l:List Old},l.Pairwise (fun a b=>b.aY<a.aY∧b.len≤a.len)→o∈l→e∈l→e.len≤o.len:=by
                intro l hl
                induction hl with
                | nil=>intro x; cases x
                | cons hd _ ih=>
                  intro x y
                  cases x with
                  | head=>cases y with
                    | head=>exact Nat.le_refl _
                    | tail _ y=>exact (hd e y).2
                  | tail _ x=>cases y with
                    | head=>have:=(hd o x).1; omega
                    | tail _ y=>exact ih x y
              exact key h12 ti he
            obtain ⟨c1,c2⟩:=hi.yM (p':=p2) ho hl rfl (o':=.dz sz (cur+1) (xs.take o.len) (du.filter fun e=>decide (e.1≤o.aY))) rfl (w':=w) (Nat.le_refl _) (hi.je ho hl (.inr ⟨o,ti,rfl⟩)) (fun b hb=>by
              rcases hb with hb | ⟨e,he,hb⟩
              · exact .inl (.inr ⟨o,ti,hb⟩)
              · exact .inl (.inr ⟨e,(List.mem_filter.1 he).1,hb⟩)) (Nat.le_succ _) (fun e=>absurd e (Nat.succ_ne_self _)) ple rfl rfl rfl (fun _ _ _=>rfl) (by
              refine ⟨by simp [p2,h1],by omega,h2,g4,rfl,by simp [p2]; omega,g6,fun x hx=>h6 x (List.mem_of_mem_take hx),g8.mono le rfl,?_,fun e he=>?_,h12.sublist List.filter_sublist⟩
              · rw [←h10,List.filter_map]; rfl
              · obtain ⟨he1,he2⟩:=List.mem_filter.1 he
                have he3:e.aY≤o.aY:=by simpa using he2
                obtain ⟨k1,k2,k3,k4,k5,k6,k7,k8⟩:=Zr e he1
                have hml:=mono e he1 he3
                refine ⟨k1,by omega,k3,k4,k5,k6,by simp; omega,?_⟩
                rw [List.take_take,Nat.min_eq_left hml]
                exact k8.mono le rfl)
            refine ⟨_,c1,c2,.row (p:=p2) (by simp [cT.put]) (by simp [p2,h1]) hn fu (fun _=>?_) fun e he ev=>?_⟩
            · rcases nZ o ti rfl with k | ⟨k1,k2⟩
              · exact .inl k
              · exact .inr ⟨by rw [k1]; simp [p2],by simpa [p2] using k2⟩
            · have:=(p2.ng e he).1
              simp only [p2] at this
              omega
          · cases e
      · cases e
    · cases e
  · cases e
theorem zO [aT]:∀{ds Ly:List D} {κ:cT} {h h':aa} {f:Nat→Value},Inv κ h w→(∀i d,ds[i]? =some d→cL κ w (f i) d)→UM h ds=some (Ly,h')→∃κ',Inv κ' h' w∧Ev κ h w κ' h' w∧Ly.length=ds.length∧∀i d,Ly[i]? =some d→cL κ' w (f i) d
  | [],Ly,κ,h,h',f,hi,hr,e=>by
    cases e
    exact ⟨κ,hi,Ev.refl κ h w,rfl,fun i d hd=>by simp at hd⟩
  | d::ds,Ly,κ,h,h',f,hi,hr,e=>by
    unfold UM at e
    split at e
    · rename_i d1 h1 e1
      split at e
      · rename_i ds2 h2 e2
        cases e
        obtain ⟨κ1,i1,v1,r1⟩:=Lr hi (hr 0 d rfl) e1
        obtain ⟨κ2,i2,v2,l2,r2⟩:=zO (f:=fun i=>f (i+1)) i1 (fun i x hx=>(hr (i+1) x hx).mono (v1.le hi)) e2
        refine ⟨κ2,i2,v1.trans v2,by simp [l2],fun i x hx=>?_⟩
        cases i with
        | zero=>cases hx; exact r1.mono (v2.le i1)
        | succ i=>exact r2 i x hx
      · cases e
    · cases e
theorem Ls [aT] (hi:Inv κ h w) {v:Value} {d d':D} {h':aa} (r:cL κ w v d) (e:GZ h d=some (d',h')):∃κ',Inv κ' h' w∧Ev κ h w κ' h' w∧cL κ' w v d':=by
  unfold GZ at e
  split at e
  · split at e
    · rename_i ds Ly h2 e2
      cases e
      cases r with
      | agg hs hr=>
      rename_i cs
      obtain ⟨κ1,i1,v1,l1,r1⟩:=zO (f:=fun i=>cs.getD i (.tuple #[])) hi hr e2
      exact ⟨κ1,i1,v1,.agg (by omega) r1⟩
    · cases e
  · cases e
end Go.Proofs.YtpklkpkfgmoghaaGreatDoor.Zz
