/- Code as statements; what they ask; contracts of functions. -/
import Derived.Test.YtpklkpkfgmoghaaGreatDoorZS
import Derived.RangeFuncRecord
set_option linter.unnecessarySimpa false
set_option linter.unusedVariables false
set_option linter.unusedSimpArgs false
namespace Go.Proofs.YtpklkpkfgmoghaaGreatDoor.Zz
inductive dA where
 | skip
 | ops (l:List dY)
 | fq (m:Nat) (l:List dY)
 | seq (a b:dA)
 | cond (c:fS) (a b:dA)
 | block (id:Nat) (s:dA)
 | loop (s:dA)
 | exit (id:Nat)
 | ret
 | mark
 | defer (f:fS) (args:List fS)
 | Gt (g:fS) (ps:List Nat) (mX body:dA)
structure b7 where
 cfg:UC
 ack:List (Nat×List Nat)
 XM:List Nat
 rd:Bool
def Dh (l:List dY):Nat:=l.foldl (fun m o=>match o.d with | some a=>min m a | none=>m) 1000000000
def MS [aL] (P:Program) (n:Nat) (pl:b7) (id:Nat) (ops:Array Oper) (draw:Bool):Option (List dY):=
 match draw with
 | false=>(List.range ops.size).mapM (pf P n pl.cfg false id ops)
 | true=>match pl.ack.lookup id with
  | some l=>match l.mapM (pf P n pl.cfg true id ops) with
   | some os=>if P.follows .mixedOrders=true∧va .any ops (pf P n pl.cfg true id ops) (Dh os) l (Array.replicate ops.size false)=true∧l.length≤ops.size then some os else none
   | none=>none
  | none=>none
def Hi [aL] (o:Oper):Option (fS×List fS):=
 match o.dst,o.guard with
 | none,none=>match o.op with
  | .defer c=>match c.callee with
   | .value f=>match jH f,nK c.args.toList with
    | some f,some as=>some (f,as)
    | _,_=>none
   | _=>none
  | _=>none
 | _,_=>none
def Hf [aL] (P:Program) (n:Nat) (pl:b7) (id:Nat) (ops:Array Oper) (draw:Bool):Option dA:=
 match draw with
 | true=>(MS P n pl id ops true).map fun l=>.fq (Dh l) l
 | false=>match (ops[ops.size - 1]?).bind Hi with
  | some fa=>if pl.rd=false then ((List.range (ops.size - 1)).mapM (pf P n pl.cfg false id ops)).map fun l=>.seq (.ops l) (.defer fa.1 fa.2) else none
  | none=>(MS P n pl id ops false).map .ops
def comp [aL] (P:Program) (n:Nat) (pl:b7):Code→Option dA
 | .skip=>some .skip
 | .region id ops draw=>(Hf P n pl id ops draw).map fun s=>if pl.XM.contains id=true then .seq .mark s else s
 | .seq a b=>match comp P n pl a,comp P n pl b with
  | some a,some b=>some (.seq a b)
  | _,_=>none
 | .cond c a b=>match jH c,comp P n pl a,comp P n pl b with
  | some c,some a,some b=>some (.cond c a b)
  | _,_,_=>none
 | .block id c=>(comp P n pl c).map (.block id)
 | .loop c=>(comp P n pl c).map .loop
 | .exit id=>some (.exit id)
 | .ret=>some .ret
 | .rangeFunc g ps mX body=>if pl.rd=false∧ps.toList.all (fun t=>decide (t<n))=true then
   match jH g,comp P n { pl with rd:=true } mX,comp P n { pl with rd:=true } body with
   | some g,some a,some b=>some (.Gt g ps.toList a b)
   | _,_,_=>none
  else none
 | _=>none
def Fr.le (τ σ:Fr):Prop:=(∀i,τ.env i=.undef∨τ.env i=σ.env i)∧τ.defs=σ.defs
def Fr.mark (σ:Fr) (c:fS) (b:Bool):Fr:=
 match c with
 | .t n=>σ.put (some n) (.bool b)
 | _=>σ
def Ed (E:Fr→D→aa→Prop) (m:Nat) (ds:List lg) (env:Nat→D) (d:D) (h:aa):Prop:=∀σ:Fr,σ.defs=ds→(∀a,a<m→σ.env a=env a)→E σ d h
def Fr.params (σ:Fr) (ps:List Nat) (args:List D):Fr:=(ps.zip args).foldl (fun σ p=>σ.put (some p.1) p.2) { σ with defs:=[] }
def Oy (r:Nat) (K:D→aa→Prop) (e:Ex) (h:aa):Prop:=
 h.f r=some (.lp .busy)∧K (.bool e.code.isNone) (h.set r (.lp (.done e)))
def Gu (r:Nat) (K:Ex→aa→Prop) (h:aa):Prop:=
 match h.f r with
 | some (.lp (.done e))=>K e (h.del r)
 | _=>False
def vc (T:bf):dA→(Ex→Fr→aa→Prop)→(Fr→D→aa→Prop)→Fr→aa→Prop
 | .skip,K,E,σ,h=>K .normal σ h
 | .ops l,K,E,σ,h=>eU T l (K .normal) E σ h
 | .fq m l,K,E,σ,h=>eU T l (K .normal) (fun σ=>Ed E m σ.defs σ.env) σ h
 | .seq a b,K,E,σ,h=>vc T a (fun e σ' h'=>match e with | .normal=>vc T b K E σ' h' | e=>K e σ' h') E σ h
 | .cond c a b,K,E,σ,h=>match σ.ev c with
  | .bool t=>(t=true→vc T a K E (σ.mark c true) h)∧(t=false→vc T b K E (σ.mark c false) h)
  | _=>False
 | .block id s,K,E,σ,h=>vc T s (fun e σ' h'=>match e with | .exit i=>if i=id then K .normal σ' h' else K (.exit i) σ' h' | e=>K e σ' h') E σ h
 | .loop s,K,E,σ,h=>∃(X:Type) (F:X→Fr) (H:X→aa) (μ:X→Nat) (I:X→Prop) (x0:X),I x0∧(F x0).le σ∧(H x0).sub h∧
   ∀x,I x→vc T s (fun e σ' h'=>match e with | .normal=>∃x',I x'∧(F x').le σ'∧(H x').sub h'∧μ x'<μ x | e=>K e σ' h') E (F x) (H x)
 | .exit id,K,E,σ,h=>K (.exit id) σ h
 | .ret,K,E,σ,h=>K .ret σ h
 | .mark,K,E,σ,h=>∃τ h0,Fr.le τ σ∧aa.sub h0 h∧K .normal τ h0
 | .defer f as,K,E,σ,h=>match σ.ev f with
  | .func (.func k) first cap=>K .normal { σ with defs:=⟨.func k,cap,first++as.map σ.ev⟩::σ.defs } h
  | _=>False
 | .Gt g ps mX body,K,E,σ,h=>match σ.ev g with
  | .func (.func k) first cap=>∀l r rd,h.f r=none→h.f rd=none→r≠rd→
    T.r k l (fun args h K2=>args.length=ps.length∧h.f r=some (.lp (.done .normal))∧
      vc T mX (fun e σ' h'=>match e with
       | .normal=>h'.f r=some (.lp (.done .normal))∧vc T body (fun e _ kK=>Oy r K2 e kK) (fun _ _ _=>False) σ' (h'.set r (.lp .busy))
       | _=>False) (fun _ _ _=>False) (σ.params ps args) h)
     (first++[.func (.yield l) [] []]++cap) ((h.set rd .W9).set r (.lp (.done .normal)))
     (fun _ h'=>Gu r (fun e kK=>K e { σ with defs:=⟨.yield rd,[],[]⟩::σ.defs } kK) h')
  | _=>False
theorem iu {T:bf} {s:dA}:∀{K K':Ex→Fr→aa→Prop} {E E':Fr→D→aa→Prop} {σ:Fr} {h:aa} (hk:∀e σ h,K e σ h→K' e σ h) (he:∀σ d h,E σ d h→E' σ d h) (hv:vc T s K E σ h),vc T s K' E' σ h:=by
 induction s with
 | skip=>exact fun hk he hv=>hk _ _ _ hv
 | ops l=>exact fun hk he hv=>p9 (hk _) he hv
 | fq m l=>exact fun hk he hv=>p9 (hk _) (fun _ _ _ k σ' e f=>he _ _ _ (k σ' e f)) hv
 | seq a b Vy Vz=>
  intro K K' E E' σ h hk he hv
  exact Vy (fun e σ' h' k=>by
   cases e with
   | normal=>exact Vz hk he k
   | _=>exact hk _ _ _ k) he hv
 | cond c a b Vy Vz=>
  intro K K' E E' σ h hk he hv
  simp only [vc] at hv ⊢
  split at hv
  ·exact ⟨fun e=>Vy hk he (hv.1 e),fun e=>Vz hk he (hv.2 e)⟩
  ·exact hv.elim
 | block id s ih=>
  intro K K' E E' σ h hk he hv
  exact ih (fun e σ' h' k=>by
   cases e with
   | exit i=>
    simp only at k ⊢
    split
    ·rename_i e; rw [if_pos e] at k; exact hk _ _ _ k
    ·rename_i e; rw [if_neg e] at k; exact hk _ _ _ k
   | _=>exact hk _ _ _ k) he hv
 | loop s ih=>
  intro K K' E E' σ h hk he hv
  obtain ⟨X,F,H,μ,I,x0,a1,a2,a3,a4⟩:=hv
  exact ⟨X,F,H,μ,I,x0,a1,a2,a3,fun x hx=>ih (fun e σ' h' k=>by
   cases e with
   | normal=>exact k
   | _=>exact hk _ _ _ k) he (a4 x hx)⟩
 | exit id=>exact fun hk he hv=>hk _ _ _ hv
 | ret=>exact fun hk he hv=>hk _ _ _ hv
 | mark=>exact fun hk he ⟨τ,h0,a,b,c⟩=>⟨τ,h0,a,b,hk _ _ _ c⟩
 | defer f as=>
  intro K K' E E' σ h hk he hv
  simp only [vc] at hv ⊢
  split at hv
  ·exact hk _ _ _ hv
  ·exact hv.elim
 | Gt g ps mX body Vy Vz=>
  intro K K' E E' σ h hk he hv
  simp only [vc] at hv ⊢
  split at hv
  ·refine fun l r rd a b c=>T.Zg _ _ _ _ _ _ _ _ (fun args h K K' hk ⟨x1,x2,x3⟩=>⟨x1,x2,Vy (fun e σ' h' k=>by
    cases e with
    | normal=>exact ⟨k.1,Vz (fun e _ kK k=>⟨k.1,hk _ _ k.2⟩) (fun _ _ _ k=>k) k.2⟩
    | _=>exact k) (fun _ _ _ k=>k) x3⟩) (fun d h' k=>?_) (hv l r rd a b c)
   unfold Gu at k ⊢
   split at k
   ·exact hk _ _ _ k
   ·exact k.elim
  ·exact hv.elim
variable {P:Program} {T:bf} {κ:b9} {h:aa} {w:World} {σ:Fr} {n:Nat} {a:Act}
theorem jz.le [aL] {τ:Fr} (hp:jz κ w σ n a) (l:τ.le σ):jz κ w τ n a:=
 ⟨hp.size,fun i=>by
  rcases l.1 i with e | e
  ·rw [e]; exact .undef _
  ·rw [e]; exact hp.env i,by rw [l.2]; exact hp.defs,hp.kz⟩
theorem G4 {F:Fence} {m:Nat} {c:Code} {Q:Exit→Act→World→Prop} {X:Type} (I:X→Act→World→Prop) (μ:X→Nat) (x0:X) {a:Act} {w:World} (h₀:I x0 a w)
  (round:∀x a w,I x a w→c.wpIn F m P (Exit.then (fun a' w'=>∃x',I x' a' w'∧μ x'<μ x) Q) a w):(Code.loop c).wpIn F m P Q a w:=by
 intro b k cs AZ hb hr
 have key:∀j x a w,μ x=j→I x a w→
   ∃e a' w',Q e a' w'∧ArrivesIn (Machine.fenced P F) P (lone (b.atR a (.code c::.inLoop c::k)) cs w) b k cs e a' w':=by
  intro j
  induction j using Nat.strongRecOn with
  | _ j ih=>
   intro x a w hn hI
   obtain ⟨e,a₁,w₁,hq,CM⟩:=round x a w hI b (.inLoop c::k) cs AZ hb hr
   cases e with
   | normal=>
    obtain ⟨x',X1,gY⟩:=hq
    obtain ⟨e₂,a₂,w₂,Ym,Ri⟩:=ih (μ x') (hn▸gY) x' a₁ w₁ rfl X1
    exact ⟨e₂,a₂,w₂,Ym,.of_steps (StepsIn.trans CM (.one (fenced_calm hb hr rfl) stepR_inLoop)) Ri⟩
   | exit id=>exact ⟨_,a₁,w₁,hq,.pass (x:=.inLoop c) rfl (fun _ _=>.inl (by simp)) CM⟩
   | goto l=>exact ⟨_,a₁,w₁,hq,.pass (x:=.inLoop c) rfl (fun _ _=>.inl (by simp)) CM⟩
   | ret=>exact ⟨_,a₁,w₁,hq,.pass (x:=.inLoop c) rfl (fun _ _=>.inl (by simp)) CM⟩
   | panic ch=>exact ⟨_,a₁,w₁,hq,.pass (x:=.inLoop c) rfl (fun _ _=>.inl (by simp)) CM⟩
   | outgrown=>exact ⟨_,a₁,w₁,hq,.pass (x:=.inLoop c) rfl (fun _ _=>.inl (by simp)) CM⟩
 obtain ⟨e,a',w',hq,CM⟩:=key _ x0 a w rfl h₀
 exact ⟨e,a',w',hq,.of_steps (.one (fenced_calm hb hr rfl) stepR_loop) CM⟩
theorem Inv.putObj [aL] (hi:Inv κ h w) {id:Nat} {o o':cI} {p:Place} {ob:Obj} (ho:h.f id=some o) (hp:κ.loc id=some p) (hl:o.live=true) (Ro:o'.live=true) (hr:fX κ (w.putObj p.blk ob) p o') (hn':∀b,Own o' p b→p.blk=b:=by intro b h; exact h.zd (by simp)):
  Inv κ (h.set id o') (w.putObj p.blk ob)∧Ev κ h w κ (h.set id o') (w.putObj p.blk ob):=by
 have:=Inv.change (p':=p) (o':=o') hi ho hp hl Ro (w':=w.putObj p.blk ob) (by simp) (by simpa using hi.h_ id p hp) (.inl rfl) (Nat.le_refl _) (fun _=>rfl) (fun _=>rfl) rfl rfl rfl
  (fun b _ hb=>World.putObj_heap_other hb) (by rw [b9.qR hp]; exact hr) (.inl rfl) hn'
 rwa [b9.qR hp] at this
theorem Inv.Di [aL] (hi:Inv κ h w) {r:Nat} {st:Mf} {p:Place} {R:Loop} (ho:h.f r=some (.lp st)) (hp:κ.loc r=some p) (hR:p.rc=some R):p.aP=1∧¬κ.gC p.blk∧w.heap[p.blk]? =some (.loop (st.on R)):=by
 obtain ⟨p',h1,h2,h3,R',h4,h5⟩:=hi.obj r _ ho
 rw [hp] at h1
 cases h1
 rw [hR] at h4
 cases h4
 exact ⟨h2,h3,h5⟩
theorem Inv.NU [aL] (hi:Inv κ h w) {r:Nat} {st:Mf} {p:Place} {R:Loop} (st':Mf) (ho:h.f r=some (.lp st)) (hp:κ.loc r=some p) (hR:p.rc=some R):
  Inv κ (h.set r (.lp st')) (w.putObj p.blk (.loop (st'.on R)))∧Ev κ h w κ (h.set r (.lp st')) (w.putObj p.blk (.loop (st'.on R))):=by
 obtain ⟨h1,h2,h3⟩:=hi.Di ho hp hR
 exact hi.putObj ho hp rfl rfl ⟨h1,h2,R,hR,World.putObj_heap_same (hi.h_ r p hp)⟩
theorem jz.params [aL] (hp:jz κ w σ n a) {ps:List Nat} (vJ:∀t∈ps,t<n) {vs:List Value} {args:List D} (r:bJ κ w vs args):
  jz κ w (σ.params ps args) n { tmps:=(ps.zip vs).foldl (fun tmps p=>tmps.setIfInBounds p.1 p.2) a.tmps,defers:=[] }:=by
 have key:∀(ps:List Nat) (vs:List Value) (args:List D) (σ:Fr) (a:Act),(∀t∈ps,t<n)→bJ κ w vs args→jz κ w σ n a→
   jz κ w ((ps.zip args).foldl (fun σ p=>σ.put (some p.1) p.2) σ) n { tmps:=(ps.zip vs).foldl (fun tmps p=>tmps.setIfInBounds p.1 p.2) a.tmps,defers:=a.defers }:=by
  intro ps
  induction ps with
  | nil=>intro vs args σ a _ _ h; simpa using h
  | cons t ps ih=>
   intro vs args σ a ht r h
   cases r with
   | nil=>simpa using h
   | cons r1 rs=>
    simp only [List.zip_cons_cons,List.foldl_cons]
    exact ih _ _ _ { a with tmps:=a.tmps.setIfInBounds t _ } (fun x hx=>ht x (by simp [hx])) rs (h.put (some t) (fun x hx=>by cases hx; exact ht t (by simp)) r1)
 have:=key ps vs args { σ with defs:=[] } { a with defers:=[] } vJ r ⟨hp.size,hp.env,.nil,hp.kz⟩
 exact this
theorem QE (ps:Array Tmp) (vs:Array Value) (tmps:Array Value):((ps.zip vs).foldl (fun tmps (t,a)=>tmps.setIfInBounds t a) tmps)=((ps.toList.zip vs.toList).foldl (fun tmps p=>tmps.setIfInBounds p.1 p.2) tmps):=by
 rw [←Array.foldl_toList,Array.toList_zip]
theorem rH [aL]:∀(c:Code) (s:dA) (pl:b7) (hc:comp P n pl c=some s) (ro:Option Nat) (AZ:pl.rd=false→ro=none) (κ0:b9) (h0:aa) (w0:World) (hT:T.nJ P κ0 w0) (rN:Inv κ0 h0 w0) (K:Ex→Fr→aa→Prop) (E:Fr→D→aa→Prop) (κ:b9) (h:aa) (w:World) (σ:Fr) (a:Act),
  Inv κ h w→jz κ w σ n a→Ev κ0 h0 w0 κ h w→vc T s K E σ h→c.wpIn (FW ro) 0 P (QK κ0 h0 w0 n K E) a w:=by
 intro c
 induction c with
 | skip=>intro s pl hc ro AZ κ0 h0 w0 hT rN K E κ h w σ a hi hp ev hv; cases hc; exact wpIn_skip ⟨κ,h,σ,hv,hi,hp,ev⟩
 | region id ops draw=>
  intro s pl hc ro AZ κ0 h0 w0 hT rN K E κ h w σ a hi hp ev hv
  simp only [comp,Option.map_eq_some_iff] at hc
  obtain ⟨s1,Fo,rfl⟩:=hc
  obtain ⟨τ,hh,t1,t2,hv⟩:∃τ hh,Fr.le τ σ∧aa.sub hh h∧vc T s1 K E τ hh:=by
   by_cases Rj:pl.XM.contains id=true
   ·rw [if_pos Rj] at hv
    obtain ⟨τ,hh,a1,a2,a3⟩:=hv
    exact ⟨τ,hh,a1,a2,a3⟩
   ·rw [if_neg Rj] at hv
    exact ⟨σ,h,⟨fun i=>.inr rfl,rfl⟩,aa.aS h,hv⟩
  replace hp:=hp.le t1
  replace hi:=hi.sub t2
  replace ev:=ev.sub t2
  clear t1 t2
  unfold Hf at Fo
  cases draw with
  | false=>
   simp only at Fo
   split at Fo
   ·rename_i fa hfa
    split at Fo
    ·rename_i hrd
     simp only [Option.map_eq_some_iff] at Fo
     obtain ⟨l,hl,rfl⟩:=Fo
     have Vr:=AZ hrd
     subst Vr
     simp only [Option.bind_eq_some_iff] at hfa
     obtain ⟨o,ho,hd⟩:=hfa
     have mI:0<ops.size:=by
      have:=(Array.getElem?_eq_some_iff.1 ho).1
      omega
     refine wpIn_region ?_
     have er:List.range ops.size=List.range (ops.size - 1)++[ops.size - 1]:=by
      conv=>lhs; rw [show ops.size=ops.size - 1+1 by omega]
      rw [List.range_succ]
     rw [er]
     refine sk hT rN (Kn:=fun σ' h'=>vc T (.defer fa.1 fa.2) K E σ' h') (fun κ' h' w' σ' a' k i' p' e'=>?_) _ _ hl κ hh w τ a hi hp ev hv
     unfold Hi at hd
     split at hd
     case h_2=>cases hd
     rename_i Ns abu
     split at hd
     case h_2=>cases hd
     rename_i cc fk
     split at hd
     case h_2=>cases hd
     rename_i fo jU
     split at hd
     case h_2=>cases hd
     rename_i f' as' e1 e2
     cases hd
     simp only [vc] at k
     have rf:=bj p' e1
     have ra:=ka p' e2
     generalize σ'.ev f'=df at rf k
     split at k
     case h_2=>exact k.elim
     rename_i kf first cap
     generalize hfv:a'.eval fo=fv at rf
     cases rf with
     | func s1 s2 r1 r2=>
     rename_i v1 v2
     rw [wpOpsIn_cons]
     unfold wpOpIn
     simp only [ho]
     rw [if_pos (by simp [Region.wanted,abu])]
     unfold Oper.wpIn
     refine ⟨fun _ _=>trivial,?_⟩
     have eR:(Oper.semAt (FW none).round a'.eval o).run P w'=.ok (.defer { target:=.fn (.func kf) v2,args:=v1++cc.args.map a'.eval }) w':=by
      show (execOp a'.eval o).run P w'=_
      simp only [execOp,fk,resolve,jU,hfv,Deferred.ofValue,Sem.run_bind,Sem.run_pure,Result.andThen]
     rw [eR]
     simp only [Oper.uponIn,Ns,Act.put]
     refine ⟨κ',h',_,k,i',⟨p'.size,p'.env,.cons (.mk (bJ.gP s2 r2) ?_) p'.defs,p'.kz⟩,e'⟩
     simp only [Array.toList_append,Array.toList_map]
     exact (bJ.gP s1 r1).append ra
    ·cases Fo
   ·simp only [Option.map_eq_some_iff] at Fo
    obtain ⟨l,hl,rfl⟩:=Fo
    refine wpIn_region ?_
    have:=sk (ro:=ro) hT rN (K:=K) (E:=E) (Kn:=K .normal) (l2:=[]) (fun κ' h' w' σ' a' k i' p' e'=>⟨κ',h',σ',k,i',p',e'⟩) _ _ hl κ hh w τ a hi hp ev hv
    rwa [List.append_nil] at this
  | true=>
   simp only [Option.map_eq_some_iff] at Fo
   obtain ⟨l,hl,rfl⟩:=Fo
   unfold MS at hl
   simp only at hl
   split at hl
   ·rename_i ord afE
    split at hl
    ·rename_i os hos
     split at hl
     ·rename_i kL
      cases hl
      obtain ⟨c1,c2,c3⟩:=kL
      refine wpIn_region_draw fun t=>?_
      have e1:Ev κ hh w κ hh { w with drawn:=w.drawn+1 }:=Ev.of_heap rfl rfl rfl rfl
      have X9:Inv κ hh { w with drawn:=w.drawn+1 }:=hi.of_heap rfl
      have hp1:=hp.mono (e1.le hi)
      simp only [Region.schedule,c1,Bool.true_or,if_true]
      refine KD hT rN (m:=Dh l) (Ed:=fun f d h=>∀σ:Fr,σ.low (Dh l)=f→E σ d h) (fun σ d h k=>k σ rfl) (cfg:=pl.cfg) (dr:=true) (r:=id) ops.size t _ κ hh _ τ a X9 hp1 (ev.trans e1) ?_
      refine qp ord ops.size l _ (List.range ops.size) τ hh c2 hos (by simp) (fun j hj _=>by simpa using hj) Down.none c3 (p9 (fun _ _ k=>k) (fun σ d h k σ' e=>?_) hv)
      have e1:(σ'.low (Dh l)).defs=(σ.low (Dh l)).defs:=by rw [e]
      refine k σ' e1 fun a ha=>?_
      have e2:(σ'.low (Dh l)).env a=(σ.low (Dh l)).env a:=by rw [e]
      simpa [Fr.low,ha] using e2
     ·cases hl
    ·cases hl
   ·cases hl
 | seq x y ihx ihy=>
  intro s pl hc ro AZ κ0 h0 w0 hT rN K E κ h w σ a hi hp ev hv
  simp only [comp] at hc
  split at hc
  ·rename_i sx sy h1 h2
   cases hc
   refine wpIn_seq (wpIn_mono (ihx sx pl h1 ro AZ κ0 h0 w0 hT rN _ E κ h w σ a hi hp ev hv) fun e a' w' q=>?_)
   cases e with
   | normal=>obtain ⟨κ',h',σ',k,i',p',e'⟩:=q; exact ihy sy pl h2 ro AZ κ0 h0 w0 hT rN K E κ' h' w' σ' a' i' p' e' k
   | _=>exact q
  ·cases hc
 | cond c x y ihx ihy=>
  intro s pl hc ro AZ κ0 h0 w0 hT rN K E κ h w σ a hi hp ev hv
  simp only [comp] at hc
  split at hc
  ·rename_i oc sx sy h00 h1 h2
   cases hc
   have rc:=bj hp h00
   simp only [vc] at hv
   split at hv
   ·rename_i t ht
    have mark:σ.mark oc t=σ:=by
     cases oc with
     | t j=>exact Fr.kh ht
     | _=>rfl
    rw [ht] at rc
    generalize Rt:a.eval c=v at rc
    cases rc
    refine wpIn_cond Rt ?_
    cases t with
    | true=>exact ihx sx pl h1 ro AZ κ0 h0 w0 hT rN K E κ h w _ a hi hp ev (mark▸hv.1 rfl)
    | false=>exact ihy sy pl h2 ro AZ κ0 h0 w0 hT rN K E κ h w _ a hi hp ev (mark▸hv.2 rfl)
   ·exact hv.elim
  ·cases hc
 | block id x ih=>
  intro s pl hc ro AZ κ0 h0 w0 hT rN K E κ h w σ a hi hp ev hv
  simp only [comp,Option.map_eq_some_iff] at hc
  obtain ⟨sx,h1,rfl⟩:=hc
  refine wpIn_block (wpIn_mono (ih sx pl h1 ro AZ κ0 h0 w0 hT rN _ E κ h w σ a hi hp ev hv) fun e a' w' q=>?_)
  cases e with
  | exit i=>
   obtain ⟨κ',h',σ',k,r⟩:=q
   simp only at k
   simp only [Exit.inBlock]
   by_cases e:i=id
   ·rw [if_pos e] at k ⊢; exact ⟨κ',h',σ',k,r⟩
   ·rw [if_neg e] at k ⊢; exact ⟨κ',h',σ',k,r⟩
  | _=>exact q
 | loop x ih=>
  intro s pl hc ro AZ κ0 h0 w0 hT rN K E κ h w σ a hi hp ev hv
  simp only [comp,Option.map_eq_some_iff] at hc
  obtain ⟨sx,h1,rfl⟩:=hc
  obtain ⟨X,F,H,μ,I,x0,a1,a2,a3,a4⟩:=hv
  refine G4 (X:=X) (fun x a w=>I x∧∃κ,Inv κ (H x) w∧jz κ w (F x) n a∧Ev κ0 h0 w0 κ (H x) w) μ x0 ⟨a1,κ,hi.sub a3,hp.le a2,ev.sub a3⟩ ?_
  rintro x a w ⟨hx,κ,hi,hp,ev⟩
  refine wpIn_mono (ih sx pl h1 ro AZ κ0 h0 w0 hT rN _ E κ (H x) w (F x) a hi hp ev (a4 x hx)) fun e a' w' q=>?_
  cases e with
  | normal=>
   obtain ⟨κ',h',σ',⟨x',k1,k2,k3,k4⟩,i',p',e'⟩:=q
   exact ⟨x',⟨k1,κ',i'.sub k3,p'.le k2,e'.sub k3⟩,k4⟩
  | _=>exact q
 | rangeFunc g ps mX body Vy Vz=>
  intro s pl hc ro AZ κ0 h0 w0 hT rN K E κ h w σ a hi hp ev hv
  simp only [comp] at hc
  split at hc
  case isFalse=>cases hc
  rename_i kL
  obtain ⟨hrd,vJ⟩:=kL
  have Vr:=AZ hrd
  subst Vr
  split at hc
  case h_2=>cases hc
  rename_i og sa sb e1 e2 e3
  cases hc
  have rg:=bj hp e1
  simp only [vc] at hv
  generalize σ.ev og=dg at rg hv
  split at hv
  case h_2=>exact hv.elim
  rename_i k first cap
  generalize hgv:a.eval g=gv at rg
  cases rg with
  | func s1 s2 r1 r2=>
  rename_i v1 v2
  refine wpIn_rangeFunc fun fn _=>?_
  let R0:Loop:={ state:=.ready,pending:=none,fn:=fn,tmps:=a.tmps,params:=ps,assign:=mX,body:=body,defers:=w.heap.size }
  obtain ⟨rd,abO,Yo⟩:=hi.r_
  let p1:Place:={ blk:=w.heap.size,base:=0,aP:=1,cap:=0,sz:=0,rc:=none }
  obtain ⟨i1,AO⟩:=hi.alloc abO Yo (.deferred (some [])) .W9 p1 rfl rfl rfl ⟨rfl,fun hx=>by have:=hi.fb _ hx; simp [p1] at this,c7 w _⟩
  obtain ⟨r,Vp,Yn⟩:=i1.r_
  have Vq:r≠rd:=fun e=>by subst e; simp [b9.put] at Vp
  let w1:=w.alloc (.deferred (some []))
  have Vs:w1.heap.size=w.heap.size+1:=by simp [w1]
  let p2:Place:={ blk:=w1.heap.size,base:=0,aP:=1,cap:=0,sz:=0,rc:=some R0 }
  obtain ⟨i2,ev2⟩:=i1.alloc Vp Yn (.loop R0) (.lp (.done .normal)) p2 rfl rfl rfl ⟨rfl,fun hx=>by have:=i1.fb _ hx; simp [p2,w1] at this,R0,rfl,c7 w1 _⟩
  have hrf:h.f r=none:=by
   simp only [aa.dD,if_neg Vq] at Yn; exact Yn
  replace hv:=hv w1.heap.size r rd hrf Yo Vq
  have Ra:=AO.trans ev2
  have Yx:Le κ0 w0 _ _:=(ev.trans Ra).le rN
  have le2:Le κ w _ _:=Ra.le hi
  have YD:((κ.put rd p1).put r p2).loc r=some p2:=by simp [b9.put]
  have acd:((κ.put rd p1).put r p2).loc rd=some p1:=by simp [b9.put,Ne.symm Vq]
  have sT:=hT.r _ _ _ _ _ _ _ _ Yx (fun args h K K' hk ⟨x1,x2,x3⟩=>⟨x1,x2,iu (fun e σ' h' k=>by
   cases e with
   | normal=>exact ⟨k.1,iu (fun e _ kK k=>⟨k.1,hk _ _ k.2⟩) (fun _ _ _ k=>k) k.2⟩
   | _=>exact k) (fun _ _ _ k=>k) x3⟩) ?_ hv
  ·obtain ⟨K7,sT⟩:=sT
   refine ⟨w1.heap.size,[{ target:=.collected w.heap.size,args:= #[] }],w1.alloc (.loop R0),{ target:=.fn (.func k) v2,args:=v1++ #[.func (.yield w1.heap.size) #[] #[]] },w1.alloc (.loop R0),k,v1++ #[.func (.yield w1.heap.size) #[] #[]]++v2,w1.alloc (.loop R0),?_,?_,fun _ _=>trivial,?_,uv,?_⟩
   ·have:=run_enterLoop_outer (P:=P) (w:=w) fn a.tmps ps mX body
    rw [←Vs] at this
    exact this
   ·have ec:Array.map a.eval #[Operand.const (.func (.yield w1.heap.size) #[] #[])]= #[.func (.yield w1.heap.size) #[] #[]]:=by simp; rfl
    simp only [resolve,rangeCall,hgv,Deferred.ofValue,Sem.run_pure,ec]
   ·simp only [invoke,gi K7]
   ·refine BM ((sT _ i2 ?_).mono fun e w3 ⟨o,h',κ',q1,q2,q3,q4⟩=>?_)
    ·simp only [Array.toList_append]
     refine bJ.append (bJ.append (bJ.gP s1 fun i d hd=>(r1 i d hd).mono le2) ?_) (bJ.gP s2 fun i d hd=>(r2 i d hd).mono le2)
     exact .cons (.func rfl rfl (fun i d hd=>by simp at hd) (fun i d hd=>by simp at hd)) .nil
    ·cases q2 with
     | panic r=>exact q1.elim
     | ret rr=>
      simp only [dn.to] at q1
      unfold Gu at q1
      split at q1
      case h_2=>exact q1.elim
      rename_i e he
      have Xp:=q4.le i2
      obtain ⟨p',l1,l2,l3,l4⟩:=Xp.loc r p2 YD
      have:=l4.one rfl
      subst this
      obtain ⟨pd,d1,d2,d3,d4⟩:=Xp.loc rd p1 acd
      have:=d4.one rfl
      subst this
      obtain ⟨b1,b2,b3⟩:=q3.Di he l1 rfl
      obtain ⟨i4,Te⟩:=q3.putObj (o':=.other) (ob:=.loop { (Mf.done e).on R0 with state:=.exhausted }) he l1 rfl rfl ⟨b1,b2⟩
      have OQ:(h'.del r).sub (h'.set r .other):=fun i o ho=>by
       simp only [aa.S9,aa.dD] at ho ⊢
       split at ho
       ·cases ho
       ·rename_i iw; rw [if_neg iw]; exact ho
      have Nx:jz κ' (w3.putObj p2.blk (.loop { (Mf.done e).on R0 with state:=.exhausted })) { σ with defs:=⟨.yield rd,[],[]⟩::σ.defs } n { a with defers:=[{ target:=.collected w.heap.size,args:= #[] }]++a.defers }:=by
       have:=hp.mono ((Ra.trans (q4.trans Te)).le hi)
       exact ⟨this.size,this.env,.cons (.col d1 rfl rfl) this.defs,this.kz⟩
      have abp:=run_endLoop (P:=P) (w:=w3) (l:=p2.blk) b3 (by
       simp only [Mf.on]
       split<;>simp)
      refine ⟨_,_,abp,?_⟩
      have Xd:=(ev.trans (Ra.trans (q4.trans Te))).sub OQ
      have hin:=i4.sub OQ
      cases e with
      | normal=>exact ⟨κ',_,_,q1,hin,Nx,Xd⟩
      | ret=>exact wpIn_ret ⟨κ',_,_,q1,hin,Nx,Xd⟩
      | exit id=>exact wpIn_exit ⟨κ',_,_,q1,hin,Nx,Xd⟩
  ·rintro args h3 K2 ⟨x1,x2,x3⟩ κ3 w3 Xp vs Xg hr3
   obtain ⟨p',l1,l2,l3,l4⟩:=Xp.loc r p2 YD
   have:=l4.one rfl
   subst this
   obtain ⟨b1,b2,b3⟩:=Xg.Di x2 l1 rfl
   have hlen:vs.size=ps.size:=by
    have:=hr3.length
    simp at this x1
    omega
   refine ⟨_,_,_,_,run_yield b3 hlen,?_⟩
   have ab7:=(Yx.trans Xp)
   have hp3:jz κ3 w3 σ n a:=hp.mono (le2.trans Xp)
   have Vm:=hp3.params (ps:=ps.toList) (fun t ht=>by simpa using List.all_eq_true.1 vJ t ht) hr3
   have hT3:=hT.mono ab7
   have key:=Vy sa { pl with rd:=true } e2 (some w1.heap.size) (fun h=>by cases h) κ3 h3 w3 hT3 Xg _ (fun _ _ _=>False) κ3 h3 w3 _ _ Xg Vm (Ev.refl _ _ _) x3
   refine roundIn_of_wpIn (F:=FW none) trivial ?_
   have X6:(((Mf.done Ex.normal).on R0).params.zip vs).foldl (fun tmps (t,a)=>tmps.setIfInBounds t a) ((Mf.done Ex.normal).on R0).tmps=(ps.toList.zip vs.toList).foldl (fun tmps p=>tmps.setIfInBounds p.1 p.2) a.tmps:=QE ps vs a.tmps
   rw [X6]
   refine wpIn_mono key fun e a4 w4 q=>?_
   cases e with
   | normal=>
    obtain ⟨κ4,h4,σ4,⟨k1,k2⟩,i4,p4,Te⟩:=q
    have ab9:=Te.le Xg
    obtain ⟨pp,m1,m2,m3,m4⟩:=ab9.loc r p2 l1
    have:=m4.one rfl
    subst this
    obtain ⟨c1,c2,c3⟩:=i4.Di k1 m1 rfl
    obtain ⟨i5,ev5⟩:=i4.NU .busy k1 m1 rfl
    refine ⟨_,run_beginRound c3 rfl,?_⟩
    have ab6:=Vz sb { pl with rd:=true } e3 (some w1.heap.size) (fun h=>by cases h) κ3 h3 w3 hT3 Xg _ (fun _ _ _=>False) κ4 _ _ σ4 a4 i5 (p4.mono (ev5.le i4)) (Te.trans ev5) k2
    refine wpIn_mono ab6 fun e a6 w6 q=>?_
    have fin:∀(e:Ex) (κ6:b9) (h6:aa),Oy r K2 e h6→Inv κ6 h6 w6→Ev κ3 h3 w3 κ6 h6 w6→
      ∃v w',(Instr.endRound p2.blk e.code).run P w6=.ok v w'∧∃o h' κ',dn.to K2 (fun _ _=>False) o h'∧jB κ' w' o (.returned v)∧Inv κ' h' w'∧Ev κ3 h3 w3 κ' h' w':=fun e κ6 h6 ⟨g1,g2⟩ i6 Tf=>by
     have ab_:=Tf.le Xg
     obtain ⟨pq,n1,n2,n3,n4⟩:=ab_.loc r p2 l1
     have:=n4.one rfl
     subst this
     obtain ⟨t1,t2,t3⟩:=i6.Di g1 n1 rfl
     obtain ⟨i7,ev7⟩:=i6.NU (.done e) g1 n1 rfl
     exact ⟨_,_,run_endRound e.code t3,.ret (.bool e.code.isNone),_,κ6,g2,.ret (.bool _),i7,Tf.trans ev7⟩
    cases e with
    | normal=>obtain ⟨κ6,h6,σ6,k6,i6,_,Tf⟩:=q; exact fin .normal κ6 h6 k6 i6 Tf
    | ret=>obtain ⟨κ6,h6,σ6,k6,i6,_,Tf⟩:=q; exact fin .ret κ6 h6 k6 i6 Tf
    | exit id=>obtain ⟨κ6,h6,σ6,k6,i6,_,Tf⟩:=q; exact fin (.exit id) κ6 h6 k6 i6 Tf
    | panic ch=>obtain ⟨_,_,_,_,_,_,k,_⟩:=q; exact k.elim
    | goto t=>exact q.elim
    | outgrown=>exact q.elim
   | ret=>obtain ⟨_,_,_,k,_⟩:=q; exact k.elim
   | exit id=>obtain ⟨_,_,_,k,_⟩:=q; exact k.elim
   | panic ch=>obtain ⟨_,_,_,_,_,_,k,_⟩:=q; exact k.elim
   | goto t=>exact q.elim
   | outgrown=>exact q.elim
 | exit id=>intro s pl hc ro AZ κ0 h0 w0 hT rN K E κ h w σ a hi hp ev hv; cases hc; exact wpIn_exit ⟨κ,h,σ,hv,hi,hp,ev⟩
 | ret=>intro s pl hc ro AZ κ0 h0 w0 hT rN K E κ h w σ a hi hp ev hv; cases hc; exact wpIn_ret ⟨κ,h,σ,hv,hi,hp,ev⟩
 | _=>intro s pl hc; simp [comp] at hc
inductive eB where
 | tmp (t:Nat)
 | cell (a:Nat) (k:Option Nat)
def pY (P:Program):List ResultVar→Option (List eB)
 | []=>some []
 | .tmp t::l=>(pY P l).map (.tmp t::·)
 | .cell a t::l=>match shapeOf P t,pY P l with
  | some k,some r=>some (.cell a k::r)
  | _,_=>none
def dV (σ:Fr) (h:aa):List eB→Option (List D)
 | []=>some []
 | .tmp t::l=>(dV σ h l).map (σ.env t::·)
 | .cell a k::l=>match eA h k (σ.env a),dV σ h l with
  | some d,some ds=>some (d::ds)
  | _,_=>none
def w8:List D→D
 | [d]=>d
 | ds=>.tuple ds
def Av (k:Nat):List D→Nat→D
 | [],_=>.undef
 | d::ds,i=>if i=k then d else Av (k+1) ds i
def fT (args:List D):Fr:={ env:=Av 0 args,defs:=[] }
theorem BS:∀(args:List D) (k i:Nat),Av k args i=if k≤i then args.getD (i - k) .undef else .undef
 | [],k,i=>by simp [Av]
 | d::ds,k,i=>by
  simp only [Av]
  rw [BS ds (k+1) i]
  by_cases e:i=k
  ·subst e; simp
  ·rw [if_neg e]
   by_cases e1:k≤i
   ·rw [if_pos e1,if_pos (by omega)]
    have:i - k=(i - (k+1))+1:=by omega
    rw [this]
    simp
   ·rw [if_neg e1,if_neg (by omega)]
def sw (rs:List eB) (R:dn→aa→Prop) (e:Ex) (σ:Fr) (h:aa):Prop:=
 match e with
 | .exit _=>False
 | _=>σ.defs=[]∧∃ds,dV σ h rs=some ds∧
   ((∃h',h'.sub h∧R (.ret (w8 ds)) h')∨(∃h',h'.sub (eV h ds)∧R (.ret (w8 (ds.map (plain h)))) h'))
def N9 (R:dn→aa→Prop) (σ:Fr) (d:D) (h:aa):Prop:=σ.defs=[]∧∃h',h'.sub h∧R (.panic d) h'
def Ox (tmps:Array Value) (x:ResultVar):Sem Value:=
 match x with
 | .tmp t=>pure (tmps.getD t undef)
 | .cell a t=>do loadVar t (←asAddr (tmps.getD a undef))
theorem Gx (fn:Func) (tmps:Array Value):results fn tmps=(do let vs ←fn.results.mapM (Ox tmps); pure (if h:vs.size=1 then vs[0] else .tuple vs)):=rfl
theorem np [aL] (hi:Inv κ h w) (hp:jz κ w σ n a):∀(l:List ResultVar) (rs:List eB) (ds:List D),pY P l=some rs→dV σ h rs=some ds→
  ∃vs:List Value,(l.mapM (Ox a.tmps)).run P w=.ok vs w∧bJ κ w vs ds
 | [],rs,ds,h1,h2=>by
  simp [pY] at h1
  subst h1
  simp [dV] at h2
  subst h2
  exact ⟨[],by simp,.nil⟩
 | .tmp t::l,rs,ds,h1,h2=>by
  simp only [pY,Option.map_eq_some_iff] at h1
  obtain ⟨TG,h3,rfl⟩:=h1
  simp only [dV,Option.map_eq_some_iff] at h2
  obtain ⟨FT,h4,rfl⟩:=h2
  obtain ⟨vs,e,r⟩:=np hi hp l TG FT h3 h4
  exact ⟨a.tmps.getD t undef::vs,by simp only [List.mapM_cons,Ox,Sem.run_bind,Sem.run_pure,Result.andThen,e],.cons (hp.env t) r⟩
 | .cell x t::l,rs,ds,h1,h2=>by
  simp only [pY] at h1
  split at h1
  ·rename_i k TG h3 h4
   cases h1
   simp only [dV] at h2
   split at h2
   ·rename_i d FT h5 h6
    cases h2
    obtain ⟨vs,e,r⟩:=np hi hp l TG FT h4 h6
    obtain ⟨v,g1,g2⟩:=s_ (P:=P) hi h3 (hp.env x) h5
    refine ⟨v::vs,?_,.cons g2 r⟩
    have g1':(Ox a.tmps (.cell x t)).run P w=.ok v w:=by
     simp only [Ox]
     generalize a.tmps.getD x undef=u at g1 ⊢
     unfold Instr.loadAt at g1
     cases u<;>first | (simp [Instr.sureAddr,Result.andThen] at g1; done) | skip
     rename_i o
     cases o with
     | none=>simp [Instr.sureAddr,Result.andThen] at g1
     | some ad=>simpa [Instr.sureAddr,asAddr] using g1
    simp only [List.mapM_cons,Sem.run_bind,g1',Sem.run_pure,Result.andThen,e]
   ·cases h2
  ·cases h1
theorem uL {vs:List Value} {ds:List D} (r:bJ κ w vs ds):bX κ w (if h:vs.toArray.size=1 then vs.toArray[0] else .tuple vs.toArray) (w8 ds):=by
 cases r with
 | nil=>exact .tuple rfl fun i d e=>by simp at e
 | cons r t=>
  cases t with
  | nil=>exact r
  | cons r2 t=>
   rw [dif_neg (by simp)]
   exact (bJ.cons r (.cons r2 t)).tuple
theorem lT [aL] {fn:Func} {rs:List eB} {ds:List D} (hi:Inv κ h w) (hp:jz κ w σ n a) (hr:pY P fn.results.toList=some rs) (he:dV σ h rs=some ds):
  ∃vs:List Value,(results fn a.tmps).run P w=.ok (if h:vs.toArray.size=1 then vs.toArray[0] else .tuple vs.toArray) w∧bJ κ w vs ds:=by
 obtain ⟨vs,e,r⟩:=np hi hp _ _ _ hr he
 refine ⟨vs,?_,r⟩
 rw [Gx,Array.mapM_eq_mapM_toList]
 simp only [Sem.run_bind,map_eq_pure_bind,e,Result.andThen,Sem.run_pure]
theorem qf [aL] {fn:Func} {args:List D} {vs:Array Value} (hi:Inv κ h w) (o9:bJ κ w vs.toList args) (hn:args.length≤fn.ntmps):jz κ w (fT args) fn.ntmps { tmps:=vs++Array.replicate (fn.ntmps - vs.size) undef,defers:=[] }:=by
 have hlen:=o9.length
 have mI:vs.size=args.length:=by simpa using hlen
 refine ⟨by simp; omega,fun i=>?_,.nil,hi.kz⟩
 simp only [fT]
 rw [BS,if_pos (by omega),Nat.sub_zero]
 by_cases ku:i<args.length
 ·obtain ⟨v,e,r⟩:=o9.get i args[i] (by simp [ku])
  have e':vs[i]? =some v:=by simpa using e
  have e2:(vs++Array.replicate (fn.ntmps - vs.size) undef)[i]? =some v:=by
   rw [Array.getElem?_append_left (by omega)]; exact e'
  rw [Array.getD_eq_getD_getElem?,e2]
  simpa [ku] using r
 ·have:args.getD i .undef=.undef:=by simp [List.getD,ku]
  rw [this]; exact .undef _
theorem SX [aL] (hT:T.nJ P κ w) {fn:Func} {c:Code} {s:dA} {pl:b7} {rs:List eB} {args:List D} {vs:Array Value} {R:dn→aa→Prop} (hc:comp P fn.ntmps pl c=some s) (hr:pY P fn.results.toList=some rs)
  (hn:args.length≤fn.ntmps) (hv:vc T s (sw rs R) (N9 R) (fT args) h) (hi:Inv κ h w) (o9:bJ κ w vs.toList args):
  c.wp P (bodyPost P fn fun e w'=>∃o h' κ',R o h'∧jB κ' w' o e∧Inv κ' h' w'∧Ev κ h w κ' h' w') { tmps:=vs++Array.replicate (fn.ntmps - vs.size) undef,defers:=[] } w:=by
 have hp:=qf hi o9 hn
 have key:=wpIn_wide.1 (rH c s pl hc none (fun _=>rfl) κ h w hT hi _ _ κ h w _ _ hi hp (Ev.refl κ h w) hv)
 refine wp_mono key fun e a' w' q=>?_
 have ret:∀(x:Ex),x≠.exit 0→(∀i,x≠.exit i)→(∃κ' h' σ',sw rs R x σ' h'∧Inv κ' h' w'∧jz κ' w' σ' fn.ntmps a'∧Ev κ h w κ' h' w')→a'.defers=[]∧∃v,(results fn a'.tmps).run P w'=.ok v w'∧(∃o h' κ',R o h'∧jB κ' w' o (.returned v)∧Inv κ' h' w'∧Ev κ h w κ' h' w'):=fun x _ hx q=>by
  obtain ⟨κ',h',σ',k,i',p',e'⟩:=q
  have k':σ'.defs=[]∧∃ds,dV σ' h' rs=some ds∧((∃kK,kK.sub h'∧R (.ret (w8 ds)) kK)∨(∃kK,kK.sub (eV h' ds)∧R (.ret (w8 (ds.map (plain h')))) kK)):=by
   cases x with
   | exit i=>exact absurd rfl (hx i)
   | _=>exact k
  obtain ⟨k1,ds,k2,k3⟩:=k'
  have hd:a'.defers=[]:=by
   have:=p'.defs
   rw [k1] at this
   generalize a'.defers=dd at this
   cases this
   rfl
  obtain ⟨us,g1,g2⟩:=lT (P:=P) i' p' hr k2
  refine ⟨hd,_,g1,?_⟩
  rcases k3 with ⟨kK,s1,s2⟩ | ⟨kK,s1,s2⟩
  ·exact ⟨_,kK,κ',s2,.ret (uL g2),i'.sub s1,e'.sub s1⟩
  ·obtain ⟨gJ,i2,e2,r2⟩:=iK i' g2
   exact ⟨_,kK,gJ,s2,.ret (uL r2),i2.sub s1,(e'.trans e2).sub s1⟩
 cases e with
 | normal=>exact ret .normal (by simp) (by simp) q
 | ret=>exact ret .ret (by simp) (by simp) q
 | exit id=>obtain ⟨κ',h',σ',k,_⟩:=q; exact k.elim
 | panic chain=>
  obtain ⟨κ',h',d,v,σ',rfl,⟨k1,kK,k2,k3⟩,r,p',i',e'⟩:=q
  have hd:a'.defers=[]:=by
   have:=p'.defs
   rw [k1] at this
   generalize a'.defers=dd at this
   cases this
   rfl
  exact ⟨hd,.panic d,kK,κ',k3,.panic r,i'.sub k2,e'.sub k2⟩
 | goto l=>exact q.elim
 | outgrown=>exact q.elim
theorem cA.HN [aL] (hT:T.nJ P κ w) {f:FuncId} {fn:Func} {c:Code} {s:dA} {pl:b7} {rs:List eB} {args:List D} {R:dn→aa→Prop} (hf:P.funcs[f]? =some fn) (hb:fn.body=some c) (jU:eY P f=true) (hc:comp P fn.ntmps pl c=some s) (hr:pY P fn.results.toList=some rs)
  (hn:args.length≤fn.ntmps) (hv:vc T s (sw rs R) (N9 R) (fT args) h):cA P κ w f args h R:=
 ⟨jU,fun vs hi o9=>calls_of_wp hf hb (SX hT hc hr hn hv hi o9)⟩
theorem aO.HN [aL] (hT:T.ok P) {f:FuncId} {fn:Func} {c:Code} {s:dA} {pl:b7} {rs:List eB} {args:List D} {R:dn→aa→Prop} (hf:P.funcs[f]? =some fn) (hb:fn.body=some c) (jU:eY P f=true) (hc:comp P fn.ntmps pl c=some s) (hr:pY P fn.results.toList=some rs)
  (hn:args.length≤fn.ntmps) (hv:vc T s (sw rs R) (N9 R) (fT args) h):aO P f args h R:=
 ⟨jU,fun κ w=>(cA.HN (hT.toY κ w) hf hb jU hc hr hn hv).2⟩
def bE [aL] (P:Program) (f:FuncId) (pl:b7):Option (dA×List eB×Nat):=
 match P.funcs[f]? with
 | none=>none
 | some fn=>match fn.body with
  | none=>none
  | some c=>match eY P f,comp P fn.ntmps pl c,pY P fn.results.toList with
   | true,some s,some rs=>some (s,rs,fn.ntmps)
   | _,_,_=>none
theorem cA.me [aL] (hT:T.nJ P κ w) {f:FuncId} {s:dA} {rs:List eB} {m:Nat} {pl:b7} {args:List D} {R:dn→aa→Prop} (hs:bE P f pl=some (s,rs,m)) (hn:args.length≤m) (hv:vc T s (sw rs R) (N9 R) (fT args) h):cA P κ w f args h R:=by
 unfold bE at hs
 split at hs
 ·cases hs
 ·rename_i fn hf
  split at hs
  ·cases hs
  ·rename_i c hb
   split at hs
   ·rename_i s' TG h1 h2 h3
    cases hs
    exact cA.HN hT hf hb h1 h2 h3 hn hv
   ·cases hs
theorem aO.me [aL] (hT:T.ok P) {f:FuncId} {s:dA} {rs:List eB} {m:Nat} {pl:b7} {args:List D} {R:dn→aa→Prop} (hs:bE P f pl=some (s,rs,m)) (hn:args.length≤m) (hv:vc T s (sw rs R) (N9 R) (fT args) h):aO P f args h R:=by
 unfold bE at hs
 split at hs
 ·cases hs
 ·rename_i fn hf
  split at hs
  ·cases hs
  ·rename_i c hb
   split at hs
   ·rename_i s' TG h1 h2 h3
    cases hs
    exact aO.HN hT hf hb h1 h2 h3 hn hv
   ·cases hs
end Go.Proofs.YtpklkpkfgmoghaaGreatDoor.Zz
namespace Go.Proofs.YtpklkpkfgmoghaaGreatDoor.Zz
section
variable {T:bf} {K:Ex→Fr→aa→Prop} {E:Fr→D→aa→Prop} {σ:Fr} {h:aa}
theorem Qz {l:List dY}:vc T (.ops l) K E σ h=eU T l (K .normal) E σ h:=rfl
theorem Kv {m:Nat} {l:List dY}:vc T (.fq m l) K E σ h=eU T l (K .normal) (fun σ=>Ed E m σ.defs σ.env) σ h:=rfl
theorem Ag {K:Fr→aa→Prop}:eU T [] K E σ h=K σ h:=rfl
end
theorem Na {α:Type} {c:Prop} [Decidable c] {x:α} {K:α→Prop}:(∃d,(if c then some x else none)=some d∧K d)↔c∧K x:=by
 split<;>simp_all
theorem HM {α β:Type} {c:Prop} [Decidable c] {x:α} {f:α→β}:Option.map f (if c then some x else none)=if c then some (f x) else none:=by
 split<;>rfl
theorem x7 (n:Nat):bounds n none none=some (0,n):=by simp [bounds]
theorem x8 (n:Nat) (k:IntKind) (u:Int):bounds n none (some (.int k u))=if 0≤u∧u≤n then some (0,u.toNat) else none:=by simp [bounds,nA]
theorem x9 (n:Nat) (k:IntKind) (l:Int):bounds n (some (.int k l)) none=if 0≤l∧l≤n then some (l.toNat,n) else none:=by simp [bounds,nA]
theorem x_ (n:Nat) (k k':IntKind) (l u:Int):bounds n (some (.int k l)) (some (.int k' u))=if 0≤l∧l≤u∧u≤n then some (l.toNat,u.toNat) else none:=by simp [bounds,nA]
theorem zS (s:List UInt8) (lo hi:Option D):ij .str (.str s) lo hi none=(bounds s.length lo hi).map fun b=>.str ((s.drop b.1).take (b.2 - b.1)):=rfl
theorem KY (s:List UInt8) (k:IntKind) (i:Int):bh (.hU (.str s) (.int k i))=if 0≤i∧i<s.length then some (.int .u8 ((s.getD i.toNat 0).toNat:Int)) else none:=by
 simp only [bh]
 by_cases h:0≤i
 ·rw [if_pos h]
  by_cases h2:i.toNat<s.length
  ·rw [List.getElem?_eq_getElem h2,if_pos ⟨h,by omega⟩]
   simp [List.getD,h2]
  ·rw [List.getElem?_eq_none (by omega),if_neg (by omega)]
 ·rw [if_neg h,if_neg (fun x=>h x.1)]
theorem xG (sz:Nat) (xs:List (List D)) (k:IntKind) (i:Int):bh (.aY sz (.sl xs) (.int k i))=if (0≤i∧i<xs.length)∧(xs.getD i.toNat []).length=sz then some (.cU (xs.getD i.toNat []) 0) else none:=by
 simp only [bh]
 by_cases h:0≤i
 ·rw [if_pos h]
  by_cases h2:i.toNat<xs.length
  ·rw [List.getElem?_eq_getElem h2]
   have:xs.getD i.toNat []=xs[i.toNat]:=by simp [List.getD,h2]
   rw [this]
   have h3:i<(xs.length:Int):=by omega
   simp [h,h3]
  ·rw [List.getElem?_eq_none (by omega),if_neg (by omega)]
 ·rw [if_neg h,if_neg (fun x=>h x.1.1)]
theorem getD_map {α:Type} (l:List α) (f:α→List D) (i:Nat) (x:α) (h:i<l.length):(l.map f).getD i []=f (l.getD i x):=by
 simp [List.getD,h]
theorem K5 (s:List UInt8) (i:Nat) (h:i<s.length):(eF s).getD i []=[.int .u8 ((s.getD i 0).toNat:Int)]:=getD_map s _ i 0 h
theorem uC (s:List UInt8):(eF s).all isByte=true:=by
 simp [eF,isByte]
theorem uD (s:List UInt8):(eF s).map byteOf=s:=by
 induction s with
 | nil=>rfl
 | cons b s ih=>simp only [eF,List.map_cons] at ih ⊢; rw [ih]; simp [byteOf]
theorem vm (s t:List UInt8):eF s++eF t=eF (s++t):=by simp [eF]
theorem vp (s:List UInt8) (n:Nat):(eF s).take n=eF (s.take n):=by simp [eF]
theorem vn (s:List UInt8) (n:Nat):(eF s).drop n=eF (s.drop n):=by simp [eF]
theorem Q_ (s:List UInt8) (i:Nat) (h:i<s.length):(eF s)[i]? =some [.int .u8 ((s.getD i 0).toNat:Int)]:=by
 simp [eF,List.getD,h]
theorem nC (s:List UInt8):(eF s).length=s.length:=by simp [eF]
theorem wD {rs:List eB} {d:D} {σ:Fr} {h:aa}:sw rs (fun o _=>o=.ret d) .ret σ h↔σ.defs=[]∧∃ds,dV σ h rs=some ds∧(w8 ds=d∨w8 (ds.map (plain h))=d):=by
 simp only [sw,dn.ret.injEq]
 constructor
 ·rintro ⟨h1,ds,h2,h3⟩
  refine ⟨h1,ds,h2,?_⟩
  rcases h3 with ⟨_,_,h3⟩ | ⟨_,_,h3⟩
  ·exact .inl h3
  ·exact .inr h3
 ·rintro ⟨h1,ds,h2,h3⟩
  refine ⟨h1,ds,h2,?_⟩
  rcases h3 with h3 | h3
  ·exact .inl ⟨.emp,aa.iW _,h3⟩
  ·exact .inr ⟨.emp,aa.iW _,h3⟩
theorem DT {rs:List eB} {d:D} {σ:Fr} {h:aa}:sw rs (fun o _=>o=.ret d) .normal σ h↔σ.defs=[]∧∃ds,dV σ h rs=some ds∧(w8 ds=d∨w8 (ds.map (plain h))=d):=wD
theorem Yy {l:List (Nat×D)} {σ:Fr} (h:∀p∈l,σ.env p.1=p.2) (hd:σ.defs=[]):(Bc l).le σ:=by
 refine ⟨fun i=>?_,by rw [hd]; rfl⟩
 simp only [Bc]
 induction l with
 | nil=>exact .inl rfl
 | cons p l ih=>
  obtain ⟨j,d⟩:=p
  simp only [gK]
  by_cases e:i=j
  ·subst e
   rw [if_pos rfl]
   exact .inr (h (i,d) (by simp)).symm
  ·rw [if_neg e]
   exact ih fun p hp=>h p (by simp [hp])
def Md:List (Nat×D)→Fr→Prop
 | [],σ=>σ.defs=[]
 | (j,d)::l,σ=>σ.env j=d∧Md l σ
theorem HH {σ:Fr}:Md [] σ=(σ.defs=[]):=rfl
theorem C9 {j:Nat} {d:D} {l:List (Nat×D)} {σ:Fr}:Md ((j,d)::l) σ=(σ.env j=d∧Md l σ):=rfl
theorem F9:∀{l:List (Nat×D)} {σ:Fr},Md l σ→(Bc l).le σ
 | [],σ,h=>Yy (fun p hp=>by simp at hp) h
 | (j,d)::l,σ,h=>by
  have ih:=F9 h.2
  refine ⟨fun i=>?_,ih.2⟩
  simp only [Bc,gK]
  by_cases e:i=j
  ·subst e; rw [if_pos rfl]; exact .inr h.1.symm
  ·rw [if_neg e]; exact ih.1 i
theorem H9 {h:aa}:aa.emp.sub h:=aa.iW h
theorem W4 {T:bf} {s:dA} {K:Ex→Fr→aa→Prop} {E:Fr→D→aa→Prop} {σ:Fr} {h:aa} {X:Type} (F:X→List (Nat×D)) (H:X→aa) (μ:X→Nat) (I:X→Prop) (x0:X) (h1:I x0) (h2:Md (F x0) σ) (h3:(H x0).sub h)
  (h4:∀x,I x→vc T s (fun e σ' h'=>match e with | .normal=>∃x',I x'∧Md (F x') σ'∧(H x').sub h'∧μ x'<μ x | e=>K e σ' h') E (Bc (F x)) (H x)):vc T (.loop s) K E σ h:=
 ⟨X,fun x=>Bc (F x),H,μ,I,x0,h1,F9 h2,h3,fun x hx=>iu (fun e σ h k=>by
  cases e with
  | normal=>obtain ⟨x',a,b,c⟩:=k; exact ⟨x',a,F9 b,c⟩
  | _=>exact k) (fun _ _ _ k=>k) (h4 x hx)⟩
theorem Dj (l:List (Nat×D)) (i:Nat):(Bc l).env i=gK l i:=rfl
theorem zb (l:List (Nat×D)):(Bc l).defs=[]:=rfl
theorem wrap_i64 {x:Int} (h1: -9223372036854775808≤x) (h2:x≤9223372036854775807):IntKind.i64.wrap x=x:=by
 simp [IntKind.wrap,IntKind.bits,IntKind.signed]
 split<;>omega
theorem QC {x:Nat} (h2:x≤9223372036854775807):IntKind.i64.wrap (x:Int)=x:=wrap_i64 (by omega) (by omega)
theorem cW {i:Nat} (h:i<9223372036854775807):IntKind.i64.wrap ((i:Int)+1)=((i+1:Nat):Int):=by rw [wrap_i64 (by omega) (by omega)]; omega
theorem wrap_add {i j:Nat} (h:i+j≤9223372036854775807):IntKind.i64.wrap ((i:Int)+(j:Int))=((i+j:Nat):Int):=by rw [wrap_i64 (by omega) (by omega)]; omega
def bf.zero:bf:=⟨fun _ _=>.none,fun _=>.none,fun _ _ _ _ _=>False,fun _ _ _ _ _ _ _ _ _ h=>h,fun _ _ _ _=>False,fun _ _ _ _ _ _ h=>h,fun _ _ _ _ _ _=>False,fun _ _ _ _ _ _ _ _ _ _ h=>h⟩
theorem bf.ew [aL] (P:Program):bf.zero.ok P:=⟨fun _ _ _ h=>(by cases h),fun _ _ _ h=>(by cases h),fun _ _ _ _ _ h=>h.elim,fun _ _ _ _ h=>h,fun _ _ _ _ _ _ _ _ _ _ h=>h.elim⟩
def bf.cX (T:bf) (f:FuncId) (q:List D→Option D):bf:={ T with q:=fun g args=>if g=f then q args else T.q g args }
theorem bf.bm [aL] {P:Program} {T:bf} (hT:T.ok P) {f:FuncId} {q:List D→Option D} (hq:∀args d,q args=some d→aM P f args d):(T.cX f q).ok P:=
 ⟨fun g args d h=>by
  simp only [bf.cX] at h
  split at h
  ·rename_i e; subst e; exact .inl (hq args d h)
  ·exact hT.q g args d h,hT.a,hT.c,hT.y,hT.r⟩
theorem bf.As [aL] {P:Program} {T:bf} (hT:T.ok P) {f:FuncId} {q:List D→Option D} (hq:∀args d,q args=some d→uS P f args d):(T.cX f q).ok P:=
 ⟨fun g args d h=>by
  simp only [bf.cX] at h
  split at h
  ·rename_i e; subst e; exact .inr (hq args d h)
  ·exact hT.q g args d h,hT.a,hT.c,hT.y,hT.r⟩
def bf.Fy (T:bf) (f:FuncId) (c:List D→aa→(D→aa→Prop)→Prop) (m:∀args h (K K':D→aa→Prop),(∀d h,K d h→K' d h)→c args h K→c args h K'):bf:=
 { T with
  c:=fun g args h K E=>if g=f then c args h K else T.c g args h K E
  mono:=fun g args h K E K' E' hk he=>by
   split
   ·exact m args h K K' hk
   ·exact T.mono g args h K E K' E' hk he }
theorem bf.qd [aL] {P:Program} {T:bf} (hT:T.ok P) {f:FuncId} {c:List D→aa→(D→aa→Prop)→Prop} {m:∀args h (K K':D→aa→Prop),(∀d h,K d h→K' d h)→c args h K→c args h K'}
  (hc:∀args h K,c args h K→aO P f args h fun o h'=>∃d,o=.ret d∧K d h'):(T.Fy f c m).ok P:=
 ⟨hT.q,hT.a,fun g args h K E x=>by
  simp only [bf.Fy] at x
  split at x
  ·rename_i e
   subst e
   exact (hc args h K x).mono fun o h' ⟨d,e,k⟩=>by subst e; exact k
  ·exact hT.c g args h K E x,hT.y,hT.r⟩
def Gy (rs:List eB) (K:D→aa→Prop) (e:Ex) (σ:Fr) (h:aa):Prop:=
 match e with
 | .exit _=>False
 | _=>σ.defs=[]∧∃ds,dV σ h rs=some ds∧K (w8 ds) h
theorem DU {rs:List eB} {K:D→aa→Prop} {σ:Fr} {h:aa}:Gy rs K .ret σ h=(σ.defs=[]∧∃ds,dV σ h rs=some ds∧K (w8 ds) h):=rfl
theorem tu {rs:List eB} {K:D→aa→Prop} {σ:Fr} {h:aa}:Gy rs K .normal σ h=(σ.defs=[]∧∃ds,dV σ h rs=some ds∧K (w8 ds) h):=rfl
def bf.UD (T:bf) (f:FuncId) (s:dA) (rs:List eB) (m:Nat):bf:=
 { T with
  c:=fun g args h K E=>if g=f then args.length≤m∧vc T s (Gy rs K) (fun σ d h=>σ.defs=[]∧E d h) (fT args) h else T.c g args h K E
  mono:=fun g args h K E K' E' hk he=>by
   split
   ·exact fun x=>⟨x.1,iu (fun e σ h k=>by
     cases e with
     | exit i=>exact k
     | _=>obtain ⟨a,ds,b,c⟩:=k; exact ⟨a,ds,b,hk _ _ c⟩) (fun ds d h k=>⟨k.1,he _ _ k.2⟩) x.2⟩
   ·exact T.mono g args h K E K' E' hk he }
theorem bf.QS [aL] {P:Program} {T:bf} (hT:T.ok P) {f:FuncId} {s:dA} {rs:List eB} {m:Nat} {pl:b7} (hs:bE P f pl=some (s,rs,m)):(T.UD f s rs m).ok P:=
 ⟨hT.q,hT.a,fun g args h K E x=>by
  simp only [bf.UD] at x
  split at x
  ·rename_i e
   subst e
   refine aO.me hT hs x.1 (iu (fun e σ h k=>?_) (fun ds d h k=>⟨k.1,h,aa.aS h,k.2⟩) x.2)
   cases e with
   | exit i=>exact k
   | _=>obtain ⟨a,ds,b,c⟩:=k; exact ⟨a,ds,b,.inl ⟨h,aa.aS h,c⟩⟩
  ·exact hT.c g args h K E x,hT.y,hT.r⟩
theorem aO.YH [aL] {P:Program} {T:bf} (hT:T.ok P) {f:FuncId} {s:dA} {rs:List eB} {m:Nat} {pl:b7} {args:List D} {h:aa} {K:D→aa→Prop} (hs:bE P f pl=some (s,rs,m)) (hn:args.length≤m)
  (hv:vc T s (Gy rs K) (fun _ _ _=>False) (fT args) h):aO P f args h fun o h'=>∃d,o=.ret d∧K d h':=by
 refine aO.me hT hs hn (iu (fun e σ h k=>?_) (fun ds d h k=>k.elim) hv)
 cases e with
 | exit i=>exact k
 | _=>obtain ⟨a,ds,b,c⟩:=k; exact ⟨a,ds,b,.inl ⟨h,aa.aS h,_,rfl,c⟩⟩
end Go.Proofs.YtpklkpkfgmoghaaGreatDoor.Zz
