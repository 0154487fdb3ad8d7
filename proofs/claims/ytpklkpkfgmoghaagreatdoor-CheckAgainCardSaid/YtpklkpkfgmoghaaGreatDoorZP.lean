/- All instructions. -/
import Derived.Test.YtpklkpkfgmoghaaGreatDoorZNA
import Derived.Laws.BytesArg
import Derived.Laws.IdiomStrings
set_option linter.unnecessarySimpa false
set_option linter.unusedVariables false
set_option linter.unusedSimpArgs false
namespace Go.Proofs.YtpklkpkfgmoghaaGreatDoor.Zz
variable {P:Program} {T:bh} {κ:cT} {h:aa} {w:World} {σ:Fr} {n:Nat} {a:Act} {K E:D→aa→Prop}
theorem dK [aT] {r q:Bool} {o:Oper} {i:cf iC} (hc:km P r q o=some i) (hi:Inv κ h w) (hp:lf κ w σ n a) (hv:∃d,bC (i.map σ.ev)=some d∧K d h):fH P κ h w K E ((execOp a.eval o).run P w):=by
  obtain ⟨d,e,k⟩:=hv
  obtain ⟨v,h1,h2⟩:=Mg hc hp e
  rw [h1]
  exact fH.val hi k h2
theorem l8.of [aT] {s:Sem Value} {v:Value} {w':World} {κ':cT} {h':aa} {d:D} (hs:s.run P w=.ok v w') (k:K d h') (r:cL κ' w' v d) (hi:Inv κ' h' w') (ev:Ev κ h w κ' h' w'):
    fH P κ h w K E ((do let x ←s; pure (Next.value x):Sem Next).run P w):=by
  simp only [Sem.run_bind,hs,Result.andThen,Sem.run_pure]
  exact ⟨κ',h',d,k,r,hi,ev⟩
def yV:List D→Int
  | [.int _ n]=>n
  | _=>0
theorem E1 [aT] (hi:Inv κ h w) {u:Value} {x:D} {xs:List (List D)} (r:cL κ w u x) (e:dH h x=some xs) (hb:xs.all isByte=true) {src dst el:TypeId} (hs:P.underlying src=some (.slice el)) (he:P.underlying el=some (.int .u8)) (hd:P.underlying dst=some .string):
    (convert src dst u).run P w=.ok (.string ⟨(xs.map byteOf).toArray⟩) w:=by
  have Vh:∀y∈xs,∃m,y=[.int .u8 m]:=fun y hy=>by
    have:=List.all_eq_true.1 hb y hy
    unfold isByte at this
    split at this
    · exact ⟨_,rfl⟩
    · cases this
  have ahH:∀y∈xs,y.length=1:=fun y hy=>by
    obtain ⟨m,rfl⟩:=Vh y hy
    rfl
  rcases sM hi r e ahH (by omega) with ⟨lx,ba,cap,rfl,hba⟩ | ⟨b,o,cap,rfl,hc⟩
  · subst lx
    rw [run_convert_bytes_string w src dst el _ _ _ hs he hd]
    cases ba with
    | none=>simp [Conv.bytesToString]; rfl
    | some ad=>simp [Conv.bytesToString,loadCells,loadCellsFrom]; rfl
  · have mh:∀i,i<xs.length→w.cell? ⟨b,o+i,none⟩=some (.int .u8 ((xs.map yV).getD i 0)):=fun i mI=>by
      obtain ⟨m,hm⟩:=Vh xs[i] (List.getElem_mem mI)
      obtain ⟨v,g1,g2⟩:=hc i xs[i] 0 (.int .u8 m) (List.getElem?_eq_getElem mI) (by simp [hm])
      cases g2
      rw [Nat.mul_one,Nat.add_zero] at g1
      rw [g1]
      simp [List.getD,mI,hm,yV]
    rw [run_convert_bytes_arg w src el hs he b o xs.length cap (xs.map yV) (by simp) mh dst hd]
    have hm:(xs.map yV).map (fun n=>UInt8.ofNat n.toNat)=xs.map byteOf:=by
      rw [List.map_map]
      apply List.map_congr_left
      intro y hy
      obtain ⟨m,rfl⟩:=Vh y hy
      rfl
    simp only [strOfNums,hm]
theorem B2 {s d:TypeId} (e:Sc P s d=some .eX):∃el,P.underlying s=some (.slice el)∧P.underlying d=some .string∧P.underlying el=some (.int .u8):=by
  unfold Sc at e
  split at e
  all_goals first
    | (cases e; done)
    | (split at e
       · cases e
         first | exact ⟨_,by assumption,by assumption,by assumption⟩ | skip
       · cases e)
theorem B3 {s d:TypeId} (e:Sc P s d=some .ld):∃el,P.underlying s=some .string∧P.underlying d=some (.slice el)∧P.underlying el=some (.int .u8):=by
  unfold Sc at e
  split at e
  all_goals first
    | (cases e; done)
    | (split at e
       · cases e
         first | exact ⟨_,by assumption,by assumption,by assumption⟩ | skip
       · cases e)
theorem G7 {u:Value} {x:D} {xs:List (List D)} (r:cL κ w u x) (e:dH h x=some xs):xs.length≤9223372036854775807:=by
  unfold dH at e
  split at e
  · cases e; simp
  · cases e
    cases r with
    | slnil=>simp
    | sl f hn=>exact hn
  · split at e
    · split at e
      · cases e
        cases r with
        | row hl hv hn=>simp; omega
      · cases e
    · cases e
  · split at e
    · split at e
      · cases e
        cases r with
        | u7 hl hv hn=>simp; omega
      · cases e
    · cases e
  · cases e
theorem aaC {u:Value} {b:Bool} {x:D} (r:cL κ w u x) {m:Nat} (hx:x=.aZ∧m=0∨(∃xs,x=.sl xs∧m=xs.length)∨(∃r aY off,x=.row r aY off m)∨(∃id off,x=.u7 id off m)):∃ad cap,u=.slice ad m cap∧m≤9223372036854775807:=by
  rcases hx with ⟨rfl,rfl⟩ | ⟨xs,rfl,rfl⟩ | ⟨r,aY,off,rfl⟩ | ⟨id,off,rfl⟩
  · cases r; exact ⟨_,_,rfl,by omega⟩
  · cases r with
    | slnil=>exact ⟨_,_,rfl,by simp⟩
    | sl f hn=>exact ⟨_,_,rfl,hn⟩
  · cases r with
    | row hl hv hn=>exact ⟨_,_,rfl,hn⟩
  · cases r with
    | u7 hl hv hn=>exact ⟨_,_,rfl,hn⟩
theorem ZN [aT] (hi:Inv κ h w) {k:LK} {t ty:TypeId} {u:Value} {x:D} (r:cL κ w u x) (hk:(k=.str∧P.underlying t=some .string)∨(k=.sl∧∃e,P.underlying t=some (.slice e))∨(∃m e,k=.arr m∧P.underlying t=some (.array m e)))
    (hv:eV T (.len k x) h K E):fH P κ h w K E ((do let x ←Builtin.len_ #[t] ty #[u]; pure (Next.value x):Sem Next).run P w):=by
  simp only [eV] at hv
  have ev:=Ev.refl κ h w
  rcases hk with ⟨rfl,ht⟩ | ⟨rfl,e,ht⟩ | ⟨m,e,rfl,ht⟩
  · split at hv
    case h_1=>
      rename_i s0 e1
      cases r with
      | str _ hl=>
      exact l8.of (v:=.int .i64 (s0.length:Int)) (by simp [Builtin.len_,run_underlying ht,goInt,size_mk]) (hv hl) (.int _ _) hi ev
    all_goals first | exact hv.elim | simp_all
  · have go:∀(m:Nat),(x=.aZ∧m=0∨(∃xs,x=.sl xs∧m=xs.length)∨(∃r aY off,x=.row r aY off m)∨(∃id off,x=.u7 id off m))→(m≤9223372036854775807→K (.int .i64 (m:Int)) h)→fH P κ h w K E ((do let x ←Builtin.len_ #[t] ty #[u]; pure (Next.value x):Sem Next).run P w):=fun m hx hkm=>by
      obtain ⟨ad,cap,rfl,hl⟩:=aaC (b:=true) r hx
      exact l8.of (v:=.int .i64 (m:Int)) (by simp [Builtin.len_,run_underlying ht,goInt]) (hkm hl) (.int _ _) hi ev
    split at hv
    all_goals first
      | exact hv.elim
      | (simp_all; done)
      | exact go 0 (.inl ⟨rfl,rfl⟩) fun _=>hv
      | exact go _ (.inr (.inl ⟨_,rfl,rfl⟩)) hv
      | exact go _ (.inr (.inr (.inl ⟨_,_,_,rfl⟩))) hv
      | exact go _ (.inr (.inr (.inr ⟨_,_,rfl⟩))) hv
  · split at hv
    all_goals first
      | exact hv.elim
      | (simp_all; done)
      | skip
    rename_i n0 _ e1
    first
      | (cases e1
         exact l8.of (v:=.int .i64 (m:Int)) (by simp [Builtin.len_,run_underlying ht,goInt]) hv (.int _ _) hi ev)
      | exact l8.of (v:=.int .i64 (m:Int)) (by simp [Builtin.len_,run_underlying ht,goInt]) hv (.int _ _) hi ev
theorem TC {κ:cT} {w:World} {v:Value} {d:D} (r:cL κ w v d):cL κ w v (gC d):=by
  cases r with
  | aZ=>exact .slnil fun _=>rfl
  | _=>first | (constructor<;>assumption) | skip
theorem L8 {κ:cT} {w:World} {cs:Array Value} {xs:List (List D)} {sz:Nat} (zs:List D) (h1:∀x∈xs,x.length=sz)
    (h2:∀(i:Nat) (x:List D) (j:Nat) (d:D),xs[i]? =some x→x[j]? =some d→∃v,cs[i*sz+j]? =some v∧cL κ w v d):
    (∀x∈sQ zs xs,x.length=sz)∧(sQ zs xs).length=xs.length∧
    ∀(i:Nat) (x:List D) (j:Nat) (d:D),(sQ zs xs)[i]? =some x→x[j]? =some d→∃v,cs[i*sz+j]? =some v∧cL κ w v d:=by
  unfold sQ
  cases zs.any isNil with
  | false=>exact ⟨h1,rfl,h2⟩
  | true=>
    simp only [cond_true]
    refine ⟨fun x hx=>?_,by rw [List.length_map],fun i x j d hx hj=>?_⟩
    · obtain ⟨y,hy,rfl⟩:=List.mem_map.1 hx
      rw [List.length_map]; exact h1 y hy
    · rw [List.getElem?_map,Option.map_eq_some_iff] at hx
      obtain ⟨y,hy,rfl⟩:=hx
      rw [List.getElem?_map,Option.map_eq_some_iff] at hj
      obtain ⟨e,he,rfl⟩:=hj
      obtain ⟨v,k1,k2⟩:=h2 i y j e hy he
      exact ⟨v,k1,TC k2⟩
theorem zo [aT] (hi:Inv κ h w) {sz lu:Nat} {str:Bool} {t tx ty e:TypeId} {z:D} (ht:P.underlying t=some (.slice e)) (hs:cw P e=some sz) (hb:ji P e=some lu) (hz:ic P e=some z) (YH:(cellsD z).length=sz) (jN:0<sz)
    (hk:(str=false∧∃e',P.underlying tx=some (.slice e'))∨(str=true∧P.underlying tx=some .string∧sz=1)) {s u:Value} {ds x:D} (rs:cL κ w s ds) (rx:cL κ w u x) (hv:eV T (.append sz lu str ds x) h K E):
    fH P κ h w K E ((do let x ←Builtin.append_ #[t,tx] ty #[s,u]; pure (Next.value x):Sem Next).run P w):=by
  simp only [eV] at hv
  obtain ⟨ys,e1,hy,hbp,YE⟩:=hv
  unfold sY at e1
  have nP:∃news,Src P sz tx u ys.length news w∧cn κ w news ys.flatten:=by
    rcases hk with ⟨rfl,e',h1⟩ | ⟨rfl,h1,h2⟩
    · have hns:∀b,x≠.str b:=fun b e=>by subst e; simp [dH] at e1
      refine FQ hi jN rx ?_ (.inl ⟨e',h1,hns⟩) hy
      cases x<;>first | exact e1 | exact absurd rfl (hns _)
    · cases x with
      | str b=>exact FQ hi jN rx e1 (.inr ⟨h1,h2,b,rfl⟩) hy
      | _=>cases e1
  obtain ⟨news,s1,s2⟩:=nP
  obtain ⟨v,w',κ',h',d,a1,a2,a3,a4,a5⟩:=tP (P:=P) (K:=K) (ty:=ty) (x:=x) hi ht hs hb hz YH jN rs hy hbp s1 s2 (by cases ds<;>exact YE)
  exact l8.of a1 a2 a3 a4 a5
theorem wc [aT] (hi:Inv κ h w) {sz lu:Nat} {str:Bool} {t tx ty e:TypeId} {z:D} (ht:P.underlying t=some (.slice e)) (hs:cw P e=some sz) (hb:ji P e=some lu) (hz:ic P e=some z) (YH:(cellsD z).length=sz) (jN:0<sz)
    (hk:(str=false∧∃e',P.underlying tx=some (.slice e'))∨(str=true∧P.underlying tx=some .string∧sz=1)) {s u:Value} {ds x:D} {zs:List D} (rs:cL κ w s ds) (rx:cL κ w u x) (hv:eV T (.appendA sz lu str ds x zs) h K E):
    fH P κ h w K E ((do let x ←Builtin.append_ #[t,tx] ty #[s,u]; pure (Next.value x):Sem Next).run P w):=by
  simp only [eV] at hv
  obtain ⟨_,ys,e1,hy,hbp,YE⟩:=hv
  unfold sY at e1
  have nP:∃news,Src P sz tx u ys.length news w∧cn κ w news ys.flatten:=by
    rcases hk with ⟨rfl,e',h1⟩ | ⟨rfl,h1,h2⟩
    · have hns:∀b,x≠.str b:=fun b e=>by subst e; simp [dH] at e1
      refine FQ hi jN rx ?_ (.inl ⟨e',h1,hns⟩) hy
      cases x<;>first | exact e1 | exact absurd rfl (hns _)
    · cases x with
      | str b=>exact FQ hi jN rx e1 (.inr ⟨h1,h2,b,rfl⟩) hy
      | _=>cases e1
  obtain ⟨news,s1,s2⟩:=nP
  by_cases ZB:∃r aY off len jy cC xs,ds=.row r aY off len∧h.f r=some (.row jy cC xs false)
  · obtain ⟨r,aY,off,len,jy,cC,xs,rfl,ho⟩:=ZB
    simp only [ho] at YE
    obtain ⟨v,w',κ',h',d,a1,a2,a3,a4,a5⟩:=tP (P:=P) (K:=K) (ty:=ty) (x:=x) hi ht hs hb hz YH jN rs hy hbp s1 s2 (by simp only [ho]; exact YE)
    exact l8.of a1 a2 a3 a4 a5
  have lx:ys≠[]∧(match ds with
       | .aZ=>ys.length*lu≤140737488355328∧∀id,h.f id=none→K (.row id 2 0 ys.length) (h.set id (.dz sz 2 ys []))
       | .row r aY off len=>match h.f r with
         | some (.dz jy cC xs du)=>aY=cC∧jy=sz∧off=0∧len=xs.length∧(xs.length+ys.length)*lu≤140737488355328∧
             K (.row r (aY+1) 0 (len+ys.length)) (h.set r (.dz sz (aY+1) (xs++ys) ((aY,len)::du)))
         | _=>False
       | _=>False):=by
    cases ds with
    | aZ=>exact YE
    | row r aY off len=>
      simp only at YE ⊢
      split at YE
      · rename_i ho; simp only [ho]; exact YE
      · rename_i ho; exact absurd ⟨_,_,_,_,_,_,_,rfl,ho⟩ ZB
      · exact YE.elim
    | _=>exact YE.elim
  obtain ⟨v,w',κ',h',d,a1,a2,a3,a4,a5⟩:=BZ (P:=P) (K:=K) (ty:=ty) (x:=x) hi ht hs hb hz YH jN rs hy hbp s1 s2 lx.1 (by have:=lx.2; cases ds<;>exact this)
  exact l8.of a1 a2 a3 a4 a5
def assoc (L:List (Nat×cJ)) (i:Nat):Option cJ:=match L with
  | []=>none
  | p::L=>if i=p.1 then some p.2 else assoc L i
theorem A6 (h:aa) (L:List (Nat×cJ)) (i:Nat):(h.Ce L).f i=match assoc L i with | some o=>some o | none=>h.f i:=by
  induction L with
  | nil=>rfl
  | cons p L ih=>
    show (aa.set (h.Ce L) p.1 p.2).f i=_
    simp only [aa.b9,assoc]
    split
    · rfl
    · exact ih
theorem Cm {L:List (Nat×cJ)} {p:Nat×cJ} (hp:p∈L):∃o,assoc L p.1=some o:=by
  induction L with
  | nil=>cases hp
  | cons q L ih=>
    simp only [assoc]
    split
    · exact ⟨_,rfl⟩
    · rename_i iy
      rcases List.mem_cons.1 hp with h | h
      · subst h; exact absurd rfl iy
      · exact ih h
theorem zw {L:List (Nat×cJ)} {i:Nat} {o:cJ} (h:assoc L i=some o):∃p∈L,p.1=i:=by
  induction L with
  | nil=>cases h
  | cons q L ih=>
    simp only [assoc] at h
    split at h
    · rename_i e; exact ⟨q,by simp,e.symm⟩
    · obtain ⟨p,h1,h2⟩:=ih h
      exact ⟨p,by simp [h1],h2⟩
theorem ID {h:aa} {L:List (Nat×cJ)} (hL:∀p∈L,h.f p.1=none):h.sub (h.Ce L):=fun i o ho=>by
  rw [A6]
  cases e:assoc L i with
  | none=>exact ho
  | some o'=>
    obtain ⟨p,h1,h2⟩:=zw e
    rw [←h2,hL p h1] at ho
    cases ho
theorem A7 {h h':aa} {L:List (Nat×cJ)} (hL:∀p∈L,h.f p.1=none) (hL':∀p∈L,h'.f p.1=none):h'.union ((h.Ce L).minus h)=h'.Ce L:=aa.ext fun i=>by
  simp only [aa.union,aa.minus]
  rw [A6,A6]
  cases e:assoc L i with
  | none=>
    simp only
    cases e1:h'.f i with
    | some o=>rfl
    | none=>cases e2:h.f i<;>rfl
  | some o=>
    obtain ⟨p,h1,h2⟩:=zw e
    have a1:=hL p h1
    have a2:=hL' p h1
    rw [h2] at a1 a2
    rw [a1,a2]
theorem R_ [aT] (hT:T.qe P κ w) (hi:Inv κ h w) {v:Value} {df:D} {vs:Array Value} {F_:List D} (rf:cL κ w v df) (ra:cn κ w vs.toList F_) (hv:eV T (.callR df F_) h K E):
    fH P κ h w K E ((do let d ←Deferred.ofValue v vs; invoke d.target d.args:Sem Next).run P w):=by
  simp only [eV] at hv
  split at hv
  · rename_i k first cap
    cases rf with
    | func s1 s2 r1 r2=>
    rename_i v1 v2
    have hr:cn κ w (v1++vs++v2).toList (first++F_++cap):=by
      simp only [Array.toList_append]
      exact ((cn.jC s1 r1).append ra).append (cn.jC s2 r2)
    replace hv:=hT.c _ _ _ _ _ hv κ w (Le.refl κ w)
    have gm:(do let d ←Deferred.ofValue (.func (.func k) v1 v2) vs; invoke d.target d.args:Sem Next).run P w=.ok (.enter k (v1++vs++v2)) w:=by
      simp only [Sem.run_bind,Deferred.ofValue,Sem.run_pure,Result.andThen,invoke,iY hv.1]
    rw [gm]
    exact hv.2 (v1++vs++v2) hi hr
  · exact hv.elim
theorem UF [aT] (hT:T.qe P κ w) (hi:Inv κ h w) {v:Value} {df:D} {vs:Array Value} {F_:List D} (rf:cL κ w v df) (ra:cn κ w vs.toList F_) (hv:eV T (.call df F_) h K E):
    fH P κ h w K E ((do let d ←Deferred.ofValue v vs; invoke d.target d.args:Sem Next).run P w):=by
  simp only [eV] at hv
  split at hv
  · rename_i k first cap
    cases rf with
    | func s1 s2 r1 r2=>
    rename_i v1 v2
    have hr:cn κ w (v1++vs++v2).toList (first++F_++cap):=by
      simp only [Array.toList_append]
      exact ((cn.jC s1 r1).append ra).append (cn.jC s2 r2)
    obtain ⟨κ',i1,Fe,rr⟩:=ky hi hr
    replace hv:=hT.c _ _ _ _ _ hv κ' w (Fe.le hi)
    have gm:(do let d ←Deferred.ofValue (.func (.func k) v1 v2) vs; invoke d.target d.args:Sem Next).run P w=.ok (.enter k (v1++vs++v2)) w:=by
      simp only [Sem.run_bind,Deferred.ofValue,Sem.run_pure,Result.andThen,invoke,iY hv.1]
    rw [gm]
    refine (hv.2 (v1++vs++v2) i1 rr).mono fun e w' ⟨o,h',jt,a1,a2,a3,a4⟩=>⟨o,h',jt,a1,a2,a3,Fe.trans a4⟩
  · rename_i l first cap
    obtain ⟨h1,L,e1,e2,hy⟩:=hv
    cases rf with
    | func s1 s2 r1 r2=>
    rename_i v1 v2
    have hr:cn κ w (v1++vs).toList (first++F_):=by
      simp only [Array.toList_append]
      exact (cn.jC s1 r1).append ra
    obtain ⟨κ',i1,Fe,rr⟩:=ky hi hr
    have sub:h1.sub (fQ h (first++F_)):=by rw [e1]; exact ID e2
    obtain ⟨f,tmps,rQ,body,b1,b2⟩:=hT.y _ _ _ _ hy κ' w (Fe.le hi) (v1++vs) (i1.sub sub) rr
    have gm:(do let d ←Deferred.ofValue (.func (.yield l) v1 v2) vs; invoke d.target d.args:Sem Next).run P w=.ok (.round l f tmps rQ body) w:=by
      simp only [Sem.run_bind,Deferred.ofValue,Sem.run_pure,Result.andThen,invoke,b1]
    rw [gm]
    refine RoundIn.mono b2 fun e w' ⟨o,h',jt,a1,a2,a3,a4⟩=>?_
    obtain ⟨f1,f2,f3⟩:=i1.frame sub a3 a4
    have dis:∀p∈L,h'.f p.1=none:=fun p hp=>f3 p.1 (by
      rw [e1]
      obtain ⟨o',qI⟩:=Cm hp
      rw [A6,qI]; simp) (e2 p hp)
    have heq:h'.union ((fQ h (first++F_)).minus h1)=h'.Ce L:=by
      rw [e1]; exact A7 e2 dis
    rw [heq] at f1 f2
    cases o with
    | ret d=>exact ⟨.ret d,_,jt,a1 dis,a2,f1,Fe.trans f2⟩
    | panic d=>exact a1.elim
  · exact hv.elim
theorem Bp {κ κ':cT} {w w':World} {v:Value} {d:D} (hs:scalar d=true) (r:cL κ w v d):cL κ' w' v d:=by
  cases r with
  | undef v=>exact .undef v
  | bool b=>exact .bool b
  | int k n=>exact .int k n
  | float k n=>exact .float k n
  | str s h=>exact .str s h
  | _=>simp [scalar] at hs
theorem Inv.aeq [aT] {κ κt κ':cT} {h h':aa} {w w':World} (hi:Inv κ h w) (ev:Ev κt .emp w κ' h' w'):Inv κ h w'∧Ev κ h w κ h w':=by
  have hb:∀b,b<w.heap.size→w'.heap[b]? =w.heap[b]? :=fun b ig=>ev.blocks b ig fun ⟨id,o,p,h1,_⟩=>by simp at h1
  have le:Le κ w κ w':=⟨fun b mI=>⟨mI,hb b (hi.gM b mI)⟩,fun id p hp=>⟨p,hp,Nat.le_refl _,fun _=>rfl,tN.refl p⟩⟩
  refine ⟨⟨fun b YC=>Nat.lt_of_lt_of_le (hi.gM b YC) ev.size,fun id p hp=>Nat.lt_of_lt_of_le (hi.jV id p hp) ev.size,hi.fresh,fun id o ho=>?_,hi.inj,hi.mN.mono le⟩,?_⟩
  · obtain ⟨p,hp,hr⟩:=hi.obj id o ho
    exact ⟨p,hp,hr.mono le (fun b nZ=>hb b (hi.je ho hp nZ)) fun _ _ x=>x⟩
  · exact { Ev.refl κ h w with os:=ev.os,tape:=ev.tape,output:=ev.output,size:=ev.size,blocks:=fun b ig _=>hb b ig,own:=fun b ig ho=>ho }
theorem S_ [aT] (hT:T.qe P κ w) (hi:Inv κ h w) {v:Value} {df:D} {vs:Array Value} {F_:List D} (rf:cL κ w v df) (ra:cn κ w vs.toList F_) (hv:eV T (.qcall df F_) h K E):
    fH P κ h w K E ((do let d ←Deferred.ofValue v vs; invoke d.target d.args:Sem Next).run P w):=by
  simp only [eV] at hv
  split at hv
  · rename_i k first cap
    obtain ⟨d,hv,hk⟩:=hv
    replace hv:=hT.q _ _ _ hv
    cases rf with
    | func s1 s2 r1 r2=>
    rename_i v1 v2
    have hr:cn κ w (v1++vs++v2).toList (first++F_++cap):=by
      simp only [Array.toList_append]
      exact ((cn.jC s1 r1).append ra).append (cn.jC s2 r2)
    obtain ⟨κ',i1,Fe,rr⟩:=ky hi hr
    rcases hv with hv | hv
    case inr=>
      obtain ⟨v,g1,g2⟩:=hv κ' w (v1++vs++v2) rr
      have gm:(do let d ←Deferred.ofValue (.func (.func k) v1 v2) vs; invoke d.target d.args:Sem Next).run P w=.ok (.value v) w:=by
        simp only [Sem.run_bind,Deferred.ofValue,Sem.run_pure,Result.andThen,invoke,g1]
      rw [gm]
      by_cases hs:scalar d=true
      · refine ⟨κ,_,d,hk,Bp hs g2,?_,?_⟩
        · rw [gO,hs]; exact hi
        · rw [gO,hs]; exact Ev.refl κ h w
      · have hs:scalar d=false:=by simpa using hs
        refine ⟨κ',_,d,hk,g2,?_,?_⟩
        · rw [gO,hs]; exact i1
        · rw [gO,hs]; exact Fe
    have gm:(do let d ←Deferred.ofValue (.func (.func k) v1 v2) vs; invoke d.target d.args:Sem Next).run P w=.ok (.enter k (v1++vs++v2)) w:=by
      simp only [Sem.run_bind,Deferred.ofValue,Sem.run_pure,Result.andThen,invoke,iY hv.1]
    rw [gm]
    have sub:=aa.mV (fQ h (first++F_++cap))
    refine (Calls.toA hv (i1.sub sub) rr).mono fun e w' ⟨o,h',jt,a0,a2,a3,a4⟩=>?_
    subst a0
    by_cases hs:scalar d=true
    · obtain ⟨l1,l2⟩:=hi.aeq a4
      refine ⟨.ret d,_,κ,hk,?_,?_,?_⟩
      · cases a2 with
        | ret r=>exact .ret (Bp hs r)
      · rw [gO,hs]; exact l1
      · rw [gO,hs]; exact l2
    have hs:scalar d=false:=by simpa using hs
    rw [gO,hs] at hk
    obtain ⟨f1,f2,_⟩:=i1.frame sub a3 a4
    have WM:(fQ h (first++F_++cap)).sub (h'.union ((fQ h (first++F_++cap)).minus .emp)):=fun id o ho=>by
      obtain ⟨p,hp,_⟩:=i1.obj id o ho
      have:=a4.ids id p hp rfl
      simpa [aa.union,aa.minus,this] using ho
    refine ⟨.ret d,fQ h (first++F_++cap),jt,hk,a2,f1.sub WM,Fe.trans ?_⟩
    exact { f2 with own:=fun b hb ho=>f2.own b hb (ho.sub WM),ids:=fun id p hp hn=>hn }
  · exact hv.elim
theorem R8 [aT] (hT:T.qe P κ w) (hi:Inv κ h w) {k:FuncId} (hv:eV T (.oa k) h K E):fH P κ h w K E ((do let d ←Deferred.ofValue (.func (.func k) #[] #[]) #[]; invoke d.target d.args:Sem Next).run P w):=by
  obtain ⟨ds,h1,h2⟩:=hv
  have hc:=hT.a k ds h h1
  have gm:(do let d ←Deferred.ofValue (.func (.func k) #[] #[]) #[]; invoke d.target d.args:Sem Next).run P w=.ok (.enter k #[]) w:=by
    simp only [Sem.run_bind,Deferred.ofValue,Sem.run_pure,Result.andThen,invoke,Array.append_empty,iY hc.1]
  rw [gm]
  refine (Calls.toA hc hi (vs:= #[]) .nil).mono fun e w' ⟨o,h',jt,⟨id,q1,q2,q3⟩,a2,a3,a4⟩=>?_
  subst q2
  subst q3
  exact ⟨.ret (.ptr id 1 0),_,jt,h2 id q1,a2,a3,a4⟩
theorem Fq [aT] (hi:Inv κ h w) {t el:TypeId} {sz:Nat} (ht:P.underlying t=some (.slice el)) (hs:cw P el=some sz) {u v:Value} {x i:D} (rx:cL κ w u x) (ri:cL κ w v i) {d:D} (e:dB h (.aS sz x i)=some d):
    ∃y,(Instr.indexAt t u v).run P w=.ok y w∧cL κ w y d:=by
  simp only [dB] at e
  split at e
  · rename_i r0 aY off len k0 z
    split at e
    · rename_i jy cC xs fz ho
      split at e
      · rename_i mg
        obtain ⟨c1,c2,c3,c4⟩:=mg
        cases e
        cases ri
        obtain ⟨p',TI,hr⟩:=hi.obj _ _ ho
        cases rx with
        | row hl ZG hn fu ha nZ=>
        rename_i cap p ad
        rw [hl] at TI
        cases TI
        have key:(Instr.indexAt t (.slice (some ad) len cap) (.int k0 z)).run P w=.ok (.pointer (some (ad.add (z.toNat*sz)))) w:=by
          simp [Instr.indexAt,asIntOf,run_underlying ht,Instr.sureAddr,c3,c4,run_sizeOf hs]
        refine ⟨_,key,.fT hl ZG fun ev=>?_⟩
        rcases ha ev with ue | ⟨tf,_⟩
        · omega
        · subst tf
          rw [eM,hr.2.2.1,c1]
          congr 1
          rw [Nat.add_mul]
          omega
      · cases e
    · rename_i jy cC xs du ho
      split at e
      · rename_i mg
        obtain ⟨c1,c2,c3,c4⟩:=mg
        cases e
        cases ri
        obtain ⟨p',TI,hr⟩:=hi.obj _ _ ho
        cases rx with
        | row hl ZG hn fu ha nZ=>
        rename_i cap p ad
        rw [hl] at TI
        cases TI
        have key:(Instr.indexAt t (.slice (some ad) len cap) (.int k0 z)).run P w=.ok (.pointer (some (ad.add (z.toNat*sz)))) w:=by
          simp [Instr.indexAt,asIntOf,run_underlying ht,Instr.sureAddr,c3,c4,run_sizeOf hs]
        refine ⟨_,key,.fT hl ZG fun ev=>?_⟩
        rcases ha ev with ue | ⟨tf,_⟩
        · omega
        · subst tf
          rw [eM,hr.2.2.1,c1]
          congr 1
          rw [Nat.add_mul]
          omega
      · cases e
    · cases e
  · cases e
theorem SL {r:Nat} (h:0x7ff0000000000000<r % 2 ^ 63):FloatKind.f64.format.order r r=none:=by
  have e:FloatKind.f64.format.read r=.nan (r / FloatKind.f64.format.signWeight % 2==1) (r % FloatKind.f64.format.signWeight - FloatKind.f64.format.infRung):=by
    have w1:FloatKind.f64.format.signWeight=2 ^ 63:=by decide
    have w2:FloatKind.f64.format.binade=2 ^ 52:=by decide
    have w3:FloatKind.f64.format.infRung=0x7ff0000000000000:=by decide
    unfold Ieee.Format.read
    simp only [w1,w2,w3]
    rw [if_neg (by omega),if_neg (by omega),if_neg (by omega)]
  unfold Ieee.Format.order
  rw [e]; rfl
theorem Dl [aT] (hi:Inv κ h w) {neg:Bool} {t:TypeId} {p q:Operand} {u v:Value} {x:iC} {y:iC} {σ:Fr} (hn:SM P t y=true) (ru:cL κ w u (σ.ev x)) (rv:cL κ w v (σ.ev y)) (hv:eV T ((cf.isNil neg x).map σ.ev) h K E):
    fH P κ h w K E ((do let x ←(do eqGuard (if neg then .neq else .eql) t p q u v; binOp (if neg then .neq else .eql) t u v); pure (Next.value x):Sem Next).run P w):=by
  unfold SM at hn
  split at hn
  · rename_i el ht
    cases rv
    have key:∀b:Bool,(∀d,(Op.equalIn (d+1) t u (.slice none 0 0)).run P w=.ok b w)→K (.bool (if neg then !b else b)) h→(eqGuard (if neg then .neq else .eql) t p q u (.slice none 0 0)=pure ())→(∀op,binOp op t u (.slice none 0 0)=match op with | .eql=>(do pure (.bool (←Op.equal t u (.slice none 0 0)))) | .neq=>(do pure (.bool (!(←Op.equal t u (.slice none 0 0))))) | op=>binOp op t u (.slice none 0 0))→
        fH P κ h w K E ((do let x ←(do eqGuard (if neg then .neq else .eql) t p q u (.slice none 0 0); binOp (if neg then .neq else .eql) t u (.slice none 0 0)); pure (Next.value x):Sem Next).run P w):=fun b hb k hg ho=>
      l8.of (v:=.bool (if neg then !b else b)) (gL hb ho neg p q hg) k (.bool _) hi (Ev.refl κ h w)
    simp only [cf.map,eV] at hv
    generalize σ.ev x=d at ru hv
    split at hv
    · cases ru
      refine key true (fun d=>by simp [Op.equalIn,run_underlying ht]) (by cases neg<;>exact hv) (cS ⟨fun _=>by simp,by simp⟩) (fun op=>by cases op<;>rfl)
    · cases ru with
      | slnil hb=>
        rename_i ba cap
        cases ba with
        | none=>
          have:=hb rfl
          subst this
          exact key true (fun d=>by simp [Op.equalIn,run_underlying ht]) (by cases neg<;>exact hv.1 rfl) (cS ⟨fun _=>by simp,by simp⟩) (fun op=>by cases op<;>rfl)
        | some a=>exact key false (fun d=>by simp [Op.equalIn,run_underlying ht]) (by cases neg<;>exact hv.2) (cS ⟨fun _=>by simp,by simp⟩) (fun op=>by cases op<;>rfl)
      | sl=>exact key false (fun d=>by simp [Op.equalIn,run_underlying ht]) (by cases neg<;>exact hv.2) (cS ⟨fun _=>by simp,by simp⟩) (fun op=>by cases op<;>rfl)
    · cases ru
      exact key false (fun d=>by simp [Op.equalIn,run_underlying ht]) (by cases neg<;>exact hv) (cS ⟨fun _=>by simp,by simp⟩) (fun op=>by cases op<;>rfl)
    · exact hv.elim
  · cases hn
theorem LB [aT] (hi:Inv κ h w) {op:BinOp} {t:TypeId} {p q:Operand} {u v:Value} {x y:D} (ru:cL κ w u x) (rv:cL κ w v y) (hv:eV T (.kA op x y) h K E):
    fH P κ h w K E ((do let x ←(do eqGuard op t p q u v; binOp op t u v); pure (Next.value x):Sem Next).run P w):=by
  simp only [eV] at hv
  split at hv
  · rename_i a b
    obtain ⟨h1,h2⟩:=hv
    cases ru; cases rv
    rw [cS ⟨fun _=>by simp,by simp⟩]
    simp only [pure_bind]
    cases hf:floatBits op .f64 a b with
    | some r=>
      rw [hf] at h2
      exact l8.of (run_float_arith w op t .f64 a b r hf) h2 (.float _ _) hi (Ev.refl κ h w)
    | none=>
      rw [hf] at h2
      have gm:∃r,FloatKind.f64.format.order r r=none∧(binOp op t (.float .f64 a) (.float .f64 b)).run P w=.ok (.float .f64 r) w.drew:=by
        unfold floatBits at hf
        refine ⟨(Question.nanBits .f64 a b).cut (w.tape w.drawn (.nanBits .f64 a b)),SL ?_,?_⟩
        · simp only [Question.cut]
          generalize w.tape w.drawn (Question.nanBits .f64 a b)=t
          have hz:t / 2 % (2 ^ 52 - 1)<2 ^ 52 - 1:=Nat.mod_lt _ (by decide)
          generalize t / 2 % (2 ^ 52 - 1)=z at hz
          rw [Nat.add_assoc,Nat.add_assoc,Nat.mul_comm,Nat.mul_add_mod]
          omega
        · cases op<;>simp only [f_,Bool.false_eq_true] at h1<;>simp only at hf<;>simp [binOp,Op.floatArith,hf,Question.forced]
      obtain ⟨r,hr,gm⟩:=gm
      exact l8.of gm (h2 r hr) (.float _ _) (hi.of_heap rfl) Ev.drew
  · exact hv.elim
theorem Mv [aT] (hi:Inv κ h w) {t:TypeId} (ht:P.underlying t=some .string) {s:List UInt8} (hv:∀id,h.f id=none→K (.iter id) (h.set id (.lH s 0))):
    fH P κ h w K E ((do let x ←Instr.range t (.string ⟨s.toArray⟩); pure (Next.value x):Sem Next).run P w):=by
  obtain ⟨id,hid,hf⟩:=hi.vO
  let p:Place:={ blk:=w.heap.size,base:=0,aY:=1,cap:=0,sz:=0,rc:=none }
  obtain ⟨i1,e1⟩:=hi.alloc hid hf (.stringIter ⟨s.toArray⟩ 0) (.lH s 0) p rfl rfl rfl ⟨rfl,fun hx=>by have:=hi.gM _ hx; simp [p] at this,dZ w _⟩
  refine l8.of (v:=.pointer (some ⟨w.heap.size,0,none⟩)) ?_ (hv id hf) (.iter (p:=p) (by simp [cT.put]) rfl) i1 e1
  simp only [Instr.range,Sem.run_bind,run_underlying ht,Result.andThen,Sem.run_pure]
  rfl
theorem Th [aT] (hi:Inv κ h w) {u:Value} {d:D} {ty:TypeId} (r0:cL κ w u d) (hv:eV T (.sX d) h K E):
    fH P κ h w K E ((do let x ←Instr.next u true ty; pure (Next.value x):Sem Next).run P w):=by
  simp only [eV] at hv
  split at hv
  · rename_i id
    split at hv
    · rename_i s pos ho
      obtain ⟨p,hp,o1,o2,o3⟩:=hi.obj id _ ho
      cases r0 with
      | iter hl vJ=>
      rw [hp] at hl
      cases hl
      have qd:(⟨s.toArray⟩:ByteArray).size=s.length:=by simp [ByteArray.size]
      by_cases ig:pos<s.length
      · let o':Obj:=.stringIter ⟨s.toArray⟩ (pos+(Utf8.decode ⟨s.toArray⟩ pos).2)
        let w':World:={ w with heap:=w.heap.modify p.blk fun _=>o' }
        have ad_:p.blk<w.heap.size:=hi.jV id p hp
        have Vv:w'.heap[p.blk]? =some o':=by simp [w',Array.getElem?_modify,o3]
        have alS:∀b,b≠p.blk→w'.heap[b]? =w.heap[b]? :=fun b hb=>by
          simp only [w',Array.getElem?_modify]
          rw [if_neg (Ne.symm hb)]
        obtain ⟨i1,e1⟩:=Inv.change (p':=p) (o':=.lH s (pos+(Utf8.decode ⟨s.toArray⟩ pos).2)) hi ho hp rfl rfl (w':=w') (by simp [w']) (by simpa [w'] using ad_) (.inl rfl) (Nat.le_refl _) (fun _=>rfl) (fun _=>rfl) rfl rfl rfl
          (fun b _ hb=>alS b hb) ⟨o1,o2,Vv⟩
        refine l8.of (w':=w') (v:=.tuple #[.bool true,goInt pos,.int .i32 (Utf8.decode ⟨s.toArray⟩ pos).1]) ?_ (hv.1 ig) ?_ i1 e1
        · simp only [Instr.next,getObj,setObj,Sem.run_bind,Sem.run,o3,Result.andThen,qd,ig,if_true]
          rfl
        · refine cn.tuple (.cons (.bool _) (.cons (.int _ _) (.cons (.int _ _) .nil)))
      · refine l8.of (v:=.tuple #[.bool false]) ?_ (hv.2 (by omega)) ?_ hi (Ev.refl κ h w)
        · simp only [Instr.next,getObj,Sem.run_bind,Sem.run,o3,Result.andThen,qd,ig,if_false,Sem.run_pure]
        · exact cn.tuple (.cons (.bool _) .nil)
    · exact hv.elim
  · exact hv.elim
theorem SA [aT] (hT:T.qe P κ w) {r q:Bool} {o:Oper} {i:cf iC} (hc:km P r q o=some i) (hi:Inv κ h w) (hp:lf κ w σ n a) (hv:eV T (i.map σ.ev) h K E):fH P κ h w K E ((execOp a.eval o).run P w):=by
  have ue:=hc
  unfold km at hc
  split at hc
  · -- move
    simp only [Option.map_eq_some_iff] at hc; obtain ⟨y,e1,rfl⟩:=hc; exact dK ue hi hp hv
  · simp only [Option.map_eq_some_iff] at hc; obtain ⟨y,e1,rfl⟩:=hc; exact dK ue hi hp hv
  · -- pick
    rename_i c x y gU
    split at hc
    · rename_i c' x' y' e1 e2 e3
      cases hc
      have rc:=bG hp e1
      have rx:=bG hp e2
      have ry:=bG hp e3
      simp only [cf.map,eV] at hv
      simp only [execOp,gU]
      generalize a.eval c=vc at rc
      generalize σ.ev c'=dc at rc hv
      split at hv
      · cases rc
        rename_i b
        simp only [asBool,Sem.run_bind,Sem.run_pure,Result.andThen]
        cases b with
        | true=>exact fH.val hi (hv.1 rfl) rx
        | false=>exact fH.val hi (hv.2 rfl) ry
      · exact hv.elim
    · cases hc
  · -- alloc
    rename_i t gU
    simp only [Option.map_eq_some_iff] at hc
    obtain ⟨z,e1,rfl⟩:=hc
    simp only [cf.map,eV] at hv
    obtain ⟨zv,z1,z2,_⟩:=kF e1 κ w
    obtain ⟨κ',h',ad,d,b1,b2,b3,b4,b5⟩:=uj (P:=P) (K:=K) hi t z2 hv
    simp only [execOp,gU]
    refine l8.of ?_ b2 b3 b4 b5
    simp only [Instr.alloc,Sem.run_bind,z1,Result.andThen,b1,Sem.run_pure]
  · -- box
    rename_i t x gU
    simp only [Option.map_eq_some_iff] at hc
    obtain ⟨y,e1,rfl⟩:=hc
    simp only [cf.map,eV] at hv
    obtain ⟨v1,v2⟩:=hv
    have r0:=bG hp e1
    have hnu:σ.ev y≠.undef:=by intro hh; rw [hh] at v1; simp [cellsD,bX] at v1
    obtain ⟨κ',h',ad,d,b1,b2,b3,b4,b5⟩:=uj (P:=P) (K:=K) hi t (r9 r0 hnu) v2
    simp only [execOp,gU]
    refine l8.of ?_ b2 b3 b4 b5
    simp only [Instr.box,Sem.run_bind,Result.andThen,b1,Sem.run_pure]
  · -- build
    (repeat' split at hc)<;>first | (cases hc; done) | (simp only [Option.map_eq_some_iff] at hc; obtain ⟨y,e1,rfl⟩:=hc; exact dK ue hi hp hv)
  · -- buildSlice
    rename_i t m ps gU
    split at hc
    case h_2=>cases hc
    rename_i el LH
    split at hc
    case h_2=>cases hc
    rename_i sz z hs hz
    split at hc
    case isFalse=>cases hc
    rename_i hb
    obtain ⟨hb1,yo,hb3⟩:=hb
    simp only [Option.map_eq_some_iff] at hc
    obtain ⟨qs,e1,rfl⟩:=hc
    simp only [cf.map,eV] at hv
    obtain ⟨xs,hx,hk⟩:=hv
    obtain ⟨g1,g2⟩:=sT hp _ _ e1
    obtain ⟨cs,c1,c2,c3,c4⟩:=vu (P:=P) (κ:=κ) (w:=w) (iv LH) hs hz hb1 yo hb3 (ps:=ps.toList.map fun p=>(p.1,a.eval p.2)) (qs:=qs.map fun p=>(p.1,σ.ev p.2)) (by simpa using g1) (fun i j v hh=>by
      simp only [List.getElem?_map,Option.map_eq_some_iff] at hh
      obtain ⟨⟨j',x⟩,h3,h4⟩:=hh
      cases h4
      obtain ⟨y,h5,h6⟩:=g2 i _ x h3
      exact ⟨σ.ev y,by simp [h5],h6⟩) hx
    have B9:(Array.map (fun (x:Nat×Operand)=>(x.1,a.eval x.2)) ps)=(ps.toList.map fun p=>(p.1,a.eval p.2)).toArray:=by apply Array.ext'; simp
    simp only [execOp,gU]
    have fu:m≤16777216:=Nat.le_trans (Nat.le_mul_of_pos_right _ hb3) hb1
    have hfl:cs.size=m*sz:=by
      have:=c2.length
      rw [eZ c3,c4] at this
      simpa using this
    cases r with
    | true=>
      simp only at hk
      rw [←c4] at hk
      obtain ⟨κ',h',d,a1,a2,a3,a4⟩:=tp (K:=K) hi el (cs:=cs) (xs:=xs) (sz:=sz) (cap:=m) c3 (by omega) (by omega) (by omega) (Hg c2 c3) hk
      rw [c4] at a2
      refine l8.of ?_ a1 a2 a3 a4
      rw [B9]; exact c1
    | false=>
      simp only at hk
      obtain ⟨n1,n2,n3⟩:=L8 (κ:=κ) (w:=w) (cellsD z) c3 (Hg c2 c3)
      obtain ⟨κ',a2,a3,a4⟩:=AH hi el (cs:=cs) (xs:=sQ (cellsD z) xs) (sz:=sz) (cap:=m) (fz:=(0,0)) n1 (by omega) (by omega) n3
      rw [n2,c4] at a2
      refine l8.of ?_ hk a2 a3 a4
      rw [B9]; exact c1
  · -- load
    rename_i t x gU
    split at hc
    · rename_i k y e1 e2
      cases hc
      simp only [cf.map,eV] at hv
      obtain ⟨d,e3,hk⟩:=hv
      obtain ⟨v,g1,g2⟩:=wO (P:=P) hi e1 (bG hp e2) e3
      simp only [execOp,gU]
      exact l8.of g1 hk g2 hi (Ev.refl κ h w)
    · cases hc
  · -- store
    rename_i t x v gU
    split at hc
    · rename_i k m y u e0 e1 e2 e3
      cases hc
      simp only [cf.map,eV] at hv
      obtain ⟨h',e4,hk⟩:=hv
      obtain ⟨w',g1,g2,g3⟩:=pL (P:=P) hi e1 (bG hp e2) (bG hp e3) e4
      simp only [execOp,gU,Sem.run_bind,g1,Result.andThen,Sem.run_pure]
      exact ⟨κ,h',hk,g2,g3⟩
    · cases hc
  · simp only [Option.map_eq_some_iff] at hc; obtain ⟨y,e1,rfl⟩:=hc; exact dK ue hi hp hv
  · -- binOp
    rename_i op t x y yt gU
    (repeat' split at hc)<;>first | (cases hc; done) | (cases hc; exact dK ue hi hp hv) | (simp only [Option.map_eq_some_iff] at hc; obtain ⟨y,e1,rfl⟩:=hc; exact dK ue hi hp hv) | skip
    · have e1:= ‹lz x=_›
      have e2:= ‹lz y=_›
      have hn:= ‹SM P t _=true›
      cases hc
      simp only [execOp,gU]
      exact Dl (neg:=false) hi hn (bG hp e1) (bG hp e2) hv
    · have e1:= ‹lz x=_›
      have e2:= ‹lz y=_›
      have hn:= ‹SM P t _=true›
      cases hc
      simp only [execOp,gU]
      exact Dl (neg:=true) hi hn (bG hp e1) (bG hp e2) hv
    · rename_i p1 p2 e1 e2 _ _ _ _
      cases hc
      simp only [execOp,gU]
      exact LB hi (bG hp e1) (bG hp e2) hv
  · simp only [Option.map_eq_some_iff] at hc; obtain ⟨y,e1,rfl⟩:=hc; exact dK ue hi hp hv
  · -- convert
    rename_i s dt x gU
    split at hc
    · rename_i ck y e1 e2
      cases hc
      have r0:=bG hp e2
      simp only [cf.map,eV] at hv
      split at hv
      · -- string(bytes)
        obtain ⟨d,e3,hk⟩:=hv
        simp only [dB] at e3
        split at e3
        · rename_i xs hx
          split at e3
          · rename_i vI
            cases e3
            obtain ⟨el,h1,h2,h3⟩:=B2 e1
            simp only [execOp,gU]
            exact l8.of (E1 hi r0 hx vI h1 h3 h2) hk (.str _ (by simpa using G7 r0 hx)) hi (Ev.refl κ h w)
          · cases e3
        · cases e3
      · -- []byte(s)
        split at hv
        · rename_i hs s0 hs0
          obtain ⟨el,h1,h2,h3⟩:=B3 e1
          simp only [execOp,gU]
          generalize a.eval x=u at r0 ⊢
          rw [hs0] at r0
          cases r0 with
          | str _ hl=>
          have gm:=run_bytes_of_string (P:=P) w s dt el ⟨s0.toArray⟩ h1 h2 h3
          have mI:Inv κ h w.drew:=hi.of_heap rfl
          have qd:(⟨s0.toArray⟩:ByteArray).size=(fX s0).length:=by simp [fX,size_mk]
          have fu:=grownCap_ge w (⟨s0.toArray⟩:ByteArray).size 0 el
          generalize grownCap w (⟨s0.toArray⟩:ByteArray).size 0 el=gc at gm fu
          obtain ⟨κ',a2,a3,a4⟩:=AH mI el (cs:=bytesRow ⟨s0.toArray⟩ gc) (fz:=((bytesRow ⟨s0.toArray⟩ gc).size,(bytesRow ⟨s0.toArray⟩ gc).size+1)) (xs:=fX s0) (sz:=1) (cap:=gc) (fun y hy=>by
            simp only [fX,List.mem_map] at hy
            obtain ⟨b,_,rfl⟩:=hy
            rfl) (by rw [←qd]; exact fu) (by simpa [fX] using hl) (fun i y j d hy hj=>by
            simp only [fX,List.getElem?_map,Option.map_eq_some_iff] at hy
            obtain ⟨b,hb,rfl⟩:=hy
            cases j with
            | succ j=>simp at hj
            | zero=>
              simp at hj
              subst hj
              refine ⟨.int .u8 (b.toNat:Int),?_,.int _ _⟩
              have ig:=(List.getElem?_eq_some_iff.1 hb).1
              have hbb:=(List.getElem?_eq_some_iff.1 hb).2
              simp only [bytesRow,Nat.mul_one,Nat.add_zero]
              rw [Array.getElem?_append_left (by simpa using ig)]
              simp [ig,hbb])
          refine l8.of gm hv ?_ a3 (Ev.drew.trans a4)
          rw [qd]
          exact a2
        · exact hv.elim
      · exact dK ue hi hp hv
    · cases hc
  · -- sliceToArrayPointer
    (repeat' split at hc)<;>first | (cases hc; done) | (cases hc; exact dK ue hi hp hv)
  · -- makeInterface
    (repeat' split at hc)<;>first | (cases hc; done) | (simp only [Option.map_eq_some_iff] at hc; obtain ⟨y,e1,rfl⟩:=hc; exact dK ue hi hp hv)
  · -- makeFunc
    (repeat' split at hc)<;>first | (cases hc; done) | (cases hc; exact dK ue hi hp hv)
  · -- slice
    rename_i t x lo mI mx gU
    split at hc
    case h_2=>cases hc
    rename_i x' lo' alz e1 e2 e3 e4
    have key:∀k:SK,i=.slice k x' lo' alz none→(∀r0 aY off len,σ.ev x'=.row r0 aY off len→∃sz el,k=.sl sz∧P.underlying t=some (.slice el)∧cw P el=some sz)→fH P κ h w K E ((execOp a.eval o).run P w):=fun k hk alV=>by
      subst hk
      simp only [cf.map,eV,Option.map_none] at hv
      split at hv
      · rename_i hx
        obtain ⟨d,e5,k5⟩:=hv
        obtain ⟨sz,el,rfl,ht,hs⟩:=alV _ _ _ _ hx
        rename_i r0 aY off len
        have rx:=bG hp e1
        rw [hx] at e5 rx
        simp only [dB] at e5
        split at e5
        · rename_i jy cC xs fz ho
          split at e5
          · rename_i mg
            obtain ⟨rfl,rfl⟩:=mg
            simp only [Option.map_eq_some_iff] at e5
            obtain ⟨b,eb,rfl⟩:=e5
            obtain ⟨p',TI,hr⟩:=hi.obj _ _ ho
            have hmx:mx=none:=by
              cases mx with
              | none=>rfl
              | some z=>simp only [Ii,Option.map_eq_some_iff,reduceCtorEq,and_false,exists_false] at e4
            subst hmx
            obtain ⟨v,g1,g2⟩:=Bu (P:=P) (κ:=κ) (w:=w) ht hs rx (um hp e2) (um hp e3) eb (fun p hp2=>by
              rw [TI] at hp2
              cases hp2
              exact hr.2.2.1)
            simp only [execOp,gU]
            exact l8.of g1 k5 g2 hi (Ev.refl κ h w)
          · cases e5
        · cases e5
      · exact dK ue hi hp hv
    split at hc
    · cases hc
      refine key .str rfl fun r0 aY off len hx=>?_
      exfalso
      simp only [cf.map,eV,Option.map_none,hx] at hv
      obtain ⟨d,e5,_⟩:=hv
      simp [dB] at e5
    · rename_i el ht
      simp only [Option.map_eq_some_iff] at hc
      obtain ⟨sz,hs,rfl⟩:=hc
      exact key (.sl sz) rfl fun r0 aY off len hx=>⟨sz,el,rfl,ht,hs⟩
    · rename_i m el ht
      split at hc
      · cases hc
        refine key (.arr m) rfl fun r0 aY off len hx=>?_
        exfalso
        simp only [cf.map,eV,Option.map_none,hx] at hv
        obtain ⟨d,e5,_⟩:=hv
        simp [dB] at e5
      · cases hc
    · cases hc
  · -- fieldAddr
    (repeat' split at hc)<;>first | (cases hc; done) | (cases hc; exact dK ue hi hp hv)
  · -- field
    (repeat' split at hc)<;>first | (cases hc; done) | (simp only [Option.map_eq_some_iff] at hc; obtain ⟨y,e1,rfl⟩:=hc; exact dK ue hi hp hv)
  · -- indexAddr
    rename_i t x j gU
    split at hc
    case h_2=>cases hc
    rename_i x' j' e1 e2
    split at hc
    · simp only [Option.map_eq_some_iff] at hc; obtain ⟨y,e3,rfl⟩:=hc; exact dK ue hi hp hv
    · rename_i el ht
      split at hc
      case h_2=>cases hc
      rename_i sz hs
      split at hc
      case isFalse=>cases hc
      cases hc
      simp only [cf.map,eV] at hv
      split at hv
      · rename_i r0 aY off len hx
        obtain ⟨d,e5,k5⟩:=hv
        have rx:=bG hp e1
        have rj:=bG hp e2
        rw [hx] at e5 rx
        obtain ⟨y,g1,g2⟩:=Fq (P:=P) hi ht hs rx rj e5
        simp only [execOp,gU]
        exact l8.of g1 k5 g2 hi (Ev.refl κ h w)
      · exact dK ue hi hp hv
    · cases hc
  · -- index
    (repeat' split at hc)<;>first | (cases hc; done) | (cases hc; exact dK ue hi hp hv)
  · simp only [Option.map_eq_some_iff] at hc; obtain ⟨y,e1,rfl⟩:=hc; exact dK ue hi hp hv
  · -- panic
    rename_i x gU
    simp only [Option.map_eq_some_iff] at hc
    obtain ⟨y,e1,rfl⟩:=hc
    have r0:=bG hp e1
    simp only [cf.map,eV] at hv
    simp only [execOp,gU]
    generalize a.eval x=u at r0
    generalize σ.ev y=d at r0 hv
    split at hv
    · cases r0 with
      | iface hr=>
      simp only [Instr.panic,Sem.run_bind,run_goPanic,Result.andThen]
      exact ⟨κ,h,_,hv,.iface hr,hi,Ev.refl κ h w⟩
    · exact hv.elim
  · -- call
    rename_i c gU
    split at hc
    · rename_i f lP
      split at hc
      · rename_i g as e1 e2
        have rf:=bG hp e1
        have ra:=mq hp e2
        have ra':cn κ w (c.args.map a.eval).toList (as.map σ.ev):=by simpa using ra
        simp only [execOp,gU,resolve,lP]
        split at hc
        · cases hc
          exact S_ hT hi rf ra' (by simpa [cf.map] using hv)
        · split at hc
          · cases hc
            exact R_ hT hi rf ra' (by simpa [cf.map] using hv)
          · cases hc
            exact UF hT hi rf ra' (by simpa [cf.map] using hv)
      · cases hc
    · rename_i b lP
      have Fm:∀vs:Array Value,c.args.map a.eval=vs→(execOp a.eval o).run P w=(builtin b c.argTypes o.type (c.args.map fun x=>match x with | .const _=>true | _=>false) vs).run P w:=fun vs hvs=>by
        simp only [execOp,gU,Sem.run_bind,resolve,lP,hvs]
        rfl
      split at hc
      · -- len
        rename_i x t e1 e2
        obtain ⟨v,h1,r1⟩:=VY hp e1
        rw [Fm _ h1]
        have hts:∃rest,c.argTypes=(#[t]:Array TypeId)++rest:=by
          refine ⟨(c.argTypes.toList.drop 1).toArray,?_⟩
          apply Array.ext'
          have:c.argTypes.toList[0]? =some t:=by simpa using e2
          cases hl:c.argTypes.toList with
          | nil=>simp [hl] at this
          | cons z zs=>simp [hl] at this; simp [this]
        simp only [builtin]
        have hlen:∀m u,(Builtin.len_ c.argTypes m u).run P w=(Builtin.len_ #[t] m u).run P w:=fun m u=>by
          simp only [Builtin.len_,e2]
          rfl
        have hgo:∀k,i=.len k x→((k=.str∧P.underlying t=some .string)∨(k=.sl∧∃e,P.underlying t=some (.slice e))∨(∃m e,k=.arr m∧P.underlying t=some (.array m e)))→fH P κ h w K E ((do let x ←Builtin.len_ c.argTypes o.type #[v]; pure (Next.value x):Sem Next).run P w):=fun k hk ht=>by
          subst hk
          have:=ZN (P:=P) (K:=K) (E:=E) (ty:=o.type) hi r1 ht hv
          simp only [Sem.run_bind] at this ⊢
          rw [hlen]
          exact this
        split at hc
        · cases hc; exact hgo _ rfl (.inl ⟨rfl,by assumption⟩)
        · cases hc; exact hgo _ rfl (.inr (.inl ⟨rfl,_,by assumption⟩))
        · cases hc; exact hgo _ rfl (.inr (.inr ⟨_,_,rfl,by assumption⟩))
        · cases hc
      · (cases hc; exact dK ue hi hp hv)
      · (cases hc; exact dK ue hi hp hv)
      · -- append
        rename_i s x t e1 e2
        obtain ⟨v,u,h1,r1,r2⟩:=uo hp e1
        split at hc
        · rename_i e t1 t2 e3 e4
          have hts:c.argTypes= #[t,t2]:=by
            apply Array.ext'
            have:c.argTypes.toList[0]? =some t:=by simpa using e2
            simp [e4] at this
            simp [e4,this]
          rw [Fm _ h1,hts]
          simp only [builtin]
          split at hc
          · rename_i sz lu z el f1 f2 f3 f4
            split at hc
            · rename_i mg
              cases hc
              exact zo hi (iv e3) f1 f2 f3 mg.1 mg.2 (.inl ⟨rfl,_,f4⟩) r1 r2 hv
            · cases hc
          · rename_i sz lu z f1 f2 f3 f4
            split at hc
            · rename_i mg
              cases hc
              exact zo hi (iv e3) f1 f2 f3 mg.1 (by omega) (.inr ⟨rfl,f4,mg.2⟩) r1 r2 hv
            · cases hc
          · cases hc
        · cases hc
      · cases hc
    · cases hc
  · -- range
    rename_i t x gU
    split at hc
    · rename_i ht
      simp only [Option.map_eq_some_iff] at hc
      obtain ⟨y,e1,rfl⟩:=hc
      have r0:=bG hp e1
      simp only [cf.map,eV] at hv
      simp only [execOp,gU]
      generalize a.eval x=u at r0
      generalize σ.ev y=d at r0 hv
      split at hv
      · cases r0
        exact Mv hi ht hv
      · exact hv.elim
    · cases hc
  · -- next
    rename_i x b gU
    split at hc
    · simp only [Option.map_eq_some_iff] at hc
      obtain ⟨y,e1,rfl⟩:=hc
      have r0:=bG hp e1
      simp only [cf.map] at hv
      simp only [execOp,gU]
      exact Th hi r0 hv
    · cases hc
  · -- typeAssert
    rename_i x xt t ok gU
    split at hc
    · cases hc
    · rename_i hni ht
      simp only [Option.map_eq_some_iff] at hc
      obtain ⟨y,e1,rfl⟩:=hc
      have r0:=bG hp e1
      simp only [cf.map,eV] at hv
      simp only [execOp,gU]
      generalize a.eval x=u at r0
      generalize σ.ev y=d at r0 hv
      split at hv
      · cases r0 with
        | iface hr=>
        obtain ⟨rfl,hk⟩:=hv
        rename_i td t' _ d' v
        refine l8.of (v:=bif ok then .tuple #[v,.bool true] else v) ?_ hk ?_ hi (Ev.refl κ h w)
        · cases td<;>first | exact absurd rfl (hni _) | (cases ok<;>simp [Instr.typeAssert,Sem.run_bind,run_underlying ht,Result.andThen])
        · cases ok with
          | false=>exact hr
          | true=>exact cn.tuple (.cons hr (.cons (.bool _) .nil))
      · exact hv.elim
    · cases hc
  · -- makeSlice
    rename_i t l c gU
    split at hc
    · rename_i e l' c' e1 e2 e3
      have rl:=bG hp e2
      have rc:=bG hp e3
      split at hc
      · rename_i sz lu z f1 f2 f3
        split at hc
        · rename_i mg
          obtain ⟨c1,rfl,c3,c4⟩:=mg
          cases hc
          simp only [cf.map,eV] at hv
          simp only [execOp,gU]
          generalize a.eval l=vl at rl
          generalize a.eval c=vc at rc
          generalize σ.ev l'=dl at rl hv
          generalize σ.ev c'=dc at rc hv
          split at hv
          · rename_i k1 n1 k2 n2
            obtain ⟨g1,rfl,g3,g4,g5,g6⟩:=hv
            cases rl
            cases rc
            have hz1:cellsD z=[z]:=by cases z<;>first | rfl | (simp [bX] at c3; done)
            rw [hz1] at g6
            exact yv hi (iv e1) f1 f2 f3 c3 c4 g1 g3 g6
          · exact hv.elim
        · cases hc
      · cases hc
    · cases hc
  · cases hc
end Go.Proofs.YtpklkpkfgmoghaaGreatDoor.Zz
