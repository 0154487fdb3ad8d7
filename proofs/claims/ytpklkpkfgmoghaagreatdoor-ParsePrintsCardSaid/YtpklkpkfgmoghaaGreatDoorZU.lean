/- Code as statements; what they ask; contracts of functions. -/
import Derived.Test.YtpklkpkfgmoghaaGreatDoorZS
import Derived.RangeFuncRecord
set_option linter.unnecessarySimpa false
set_option linter.unusedVariables false
set_option linter.unusedSimpArgs false
namespace Go.Proofs.YtpklkpkfgmoghaaGreatDoor.Zz
inductive dL where
 | skip
 | ops (l:List ep)
 | fD (m:Nat) (l:List ep)
 | seq (a b:dL)
 | cond (c:f7) (a b:dL)
 | block (id:Nat) (s:dL)
 | loop (s:dL)
 | exit (id:Nat)
 | ret
 | mark
 | defer (f:f7) (args:List f7)
 | GY (g:f7) (ps:List Nat) (np body:dL)
structure cj where
 cfg:VC
 aeu:List (Nat×List Nat)
 YY:List Nat
 rd:Bool
def DF (l:List ep):Nat:=l.foldl (fun m o=>match o.d with | some a=>min m a | none=>m) 1000000000
def ND [aN] (P:Program) (n:Nat) (pl:cj) (id:Nat) (ops:Array Oper) (draw:Bool):Option (List ep):=
 match draw with
 | false=>(List.range ops.size).mapM (pB P n pl.cfg false id ops)
 | true=>match pl.aeu.lookup id with
  | some l=>match l.mapM (pB P n pl.cfg true id ops) with
   | some os=>if P.follows .mixedOrders=true∧vu .any ops (pB P n pl.cfg true id ops) (DF os) l (Array.replicate ops.size false)=true∧l.length≤ops.size then some os else none
   | none=>none
  | none=>none
def HL [aN] (o:Oper):Option (f7×List f7):=
 match o.dst,o.guard with
 | none,none=>match o.op with
  | .defer c=>match c.callee with
   | .value f=>match jN f,nV c.args.toList with
    | some f,some as=>some (f,as)
    | _,_=>none
   | _=>none
  | _=>none
 | _,_=>none
def HI [aN] (P:Program) (n:Nat) (pl:cj) (id:Nat) (ops:Array Oper) (draw:Bool):Option dL:=
 match draw with
 | true=>(ND P n pl id ops true).map fun l=>.fD (DF l) l
 | false=>match (ops[ops.size - 1]?).bind HL with
  | some fa=>if pl.rd=false then ((List.range (ops.size - 1)).mapM (pB P n pl.cfg false id ops)).map fun l=>.seq (.ops l) (.defer fa.1 fa.2) else none
  | none=>(ND P n pl id ops false).map .ops
def comp [aN] (P:Program) (n:Nat) (pl:cj):Code→Option dL
 | .skip=>some .skip
 | .region id ops draw=>(HI P n pl id ops draw).map fun s=>if pl.YY.contains id=true then .seq .mark s else s
 | .seq a b=>match comp P n pl a,comp P n pl b with
  | some a,some b=>some (.seq a b)
  | _,_=>none
 | .cond c a b=>match jN c,comp P n pl a,comp P n pl b with
  | some c,some a,some b=>some (.cond c a b)
  | _,_,_=>none
 | .block id c=>(comp P n pl c).map (.block id)
 | .loop c=>(comp P n pl c).map .loop
 | .exit id=>some (.exit id)
 | .ret=>some .ret
 | .rangeFunc g ps np body=>if pl.rd=false∧ps.toList.all (fun t=>decide (t<n))=true then
   match jN g,comp P n { pl with rd:=true } np,comp P n { pl with rd:=true } body with
   | some g,some a,some b=>some (.GY g ps.toList a b)
   | _,_,_=>none
  else none
 | _=>none
def Fr.le (τ σ:Fr):Prop:=(∀i,τ.env i=.undef∨τ.env i=σ.env i)∧τ.defs=σ.defs
def Fr.mark (σ:Fr) (c:f7) (b:Bool):Fr:=
 match c with
 | .t n=>σ.put (some n) (.bool b)
 | _=>σ
def Ed (E:Fr→D→aa→Prop) (m:Nat) (ds:List lv) (env:Nat→D) (d:D) (h:aa):Prop:=∀σ:Fr,σ.defs=ds→(∀a,a<m→σ.env a=env a)→E σ d h
def Fr.params (σ:Fr) (ps:List Nat) (args:List D):Fr:=(ps.zip args).foldl (fun σ p=>σ.put (some p.1) p.2) { σ with defs:=[] }
def Pg (r:Nat) (K:D→aa→Prop) (e:Ex) (h:aa):Prop:=
 h.f r=some (.lp .busy)∧K (.bool e.code.isNone) (h.set r (.lp (.done e)))
def GZ (r:Nat) (K:Ex→aa→Prop) (h:aa):Prop:=
 match h.f r with
 | some (.lp (.done e))=>K e (h.del r)
 | _=>False
def vc (T:bm):dL→(Ex→Fr→aa→Prop)→(Fr→D→aa→Prop)→Fr→aa→Prop
 | .skip,K,E,σ,h=>K .normal σ h
 | .ops l,K,E,σ,h=>fe T l (K .normal) E σ h
 | .fD m l,K,E,σ,h=>fe T l (K .normal) (fun σ=>Ed E m σ.defs σ.env) σ h
 | .seq a b,K,E,σ,h=>vc T a (fun e σ' h'=>match e with | .normal=>vc T b K E σ' h' | e=>K e σ' h') E σ h
 | .cond c a b,K,E,σ,h=>match σ.ev c with
  | .bool t=>(t=true→vc T a K E (σ.mark c true) h)∧(t=false→vc T b K E (σ.mark c false) h)
  | _=>False
 | .block id s,K,E,σ,h=>vc T s (fun e σ' h'=>match e with | .exit i=>if i=id then K .normal σ' h' else K (.exit i) σ' h' | e=>K e σ' h') E σ h
 | .loop s,K,E,σ,h=>∃(X:Type) (F:X→Fr) (H:X→aa) (μ:X→Nat) (I:X→Prop) (x0:X),I x0∧(F x0).le σ∧(H x0).sub h∧
   ∀x,I x→vc T s (fun e σ' h'=>match e with | .normal=>∃x',I x'∧(F x').le σ'∧(H x').sub h'∧μ x'<μ x | e=>K e σ' h') E (F x) (H x)
 | .exit id,K,E,σ,h=>K (.exit id) σ h
 | .ret,K,E,σ,h=>K .ret σ h
 | .mark,K,E,σ,h=>∃τ h0,Fr.le τ σ∧aa.sub h0 h∧K .normal τ h0
 | .defer f as,K,E,σ,h=>match σ.ev f with
  | .func (.func k) first cap=>K .normal { σ with defs:=⟨.func k,cap,first++as.map σ.ev⟩::σ.defs } h
  | _=>False
 | .GY g ps np body,K,E,σ,h=>match σ.ev g with
  | .func (.func k) first cap=>∀l r rd,h.f r=none→h.f rd=none→r≠rd→
    T.r k l (fun args h K2=>args.length=ps.length∧h.f r=some (.lp (.done .normal))∧
      vc T np (fun e σ' h'=>match e with
       | .normal=>h'.f r=some (.lp (.done .normal))∧vc T body (fun e _ kQ=>Pg r K2 e kQ) (fun _ _ _=>False) σ' (h'.set r (.lp .busy))
       | _=>False) (fun _ _ _=>False) (σ.params ps args) h)
     (first++[.func (.yield l) [] []]++cap) ((h.set rd .Yc).set r (.lp (.done .normal)))
     (fun _ h'=>GZ r (fun e kQ=>K e { σ with defs:=⟨.yield rd,[],[]⟩::σ.defs } kQ) h')
  | _=>False
theorem iA {T:bm} {s:dL}:∀{K K':Ex→Fr→aa→Prop} {E E':Fr→D→aa→Prop} {σ:Fr} {h:aa} (hk:∀e σ h,K e σ h→K' e σ h) (he:∀σ d h,E σ d h→E' σ d h) (hv:vc T s K E σ h),vc T s K' E' σ h:=by
 induction s with
 | skip=>exact fun hk he hv=>hk _ _ _ hv
 | ops l=>exact fun hk he hv=>qo (hk _) he hv
 | fD m l=>exact fun hk he hv=>qo (hk _) (fun _ _ _ k σ' e f=>he _ _ _ (k σ' e f)) hv
 | seq a b Wz WA=>
  intro K K' E E' σ h hk he hv
  exact Wz (fun e σ' h' k=>by
   cases e with
   | normal=>exact WA hk he k
   | _=>exact hk _ _ _ k) he hv
 | cond c a b Wz WA=>
  intro K K' E E' σ h hk he hv
  simp only [vc] at hv ⊢
  split at hv
  ·exact ⟨fun e=>Wz hk he (hv.1 e),fun e=>WA hk he (hv.2 e)⟩
  ·exact hv.elim
 | block id s ih=>
  intro K K' E E' σ h hk he hv
  exact ih (fun e σ' h' k=>by
   cases e with
   | exit i=>
    simp only at k ⊢
    split
    ·ab e; rw [if_pos e] at k; exact hk _ _ _ k
    ·ab e; rw [if_neg e] at k; exact hk _ _ _ k
   | _=>exact hk _ _ _ k) he hv
 | loop s ih=>
  intro K K' E E' σ h hk he hv
  obtain ⟨X,F,H,μ,I,x0,a1,a2,a3,a4⟩:=hv
  exact ⟨X,F,H,μ,I,x0,a1,a2,a3,fun x hx=>ih (fun e σ' h' k=>by
   cases e with
   | normal=>exact k
   | _=>exact hk _ _ _ k) he (a4 x hx)⟩
 | exit id=>exact fun hk he hv=>hk _ _ _ hv
 | ret=>exact fun hk he hv=>hk _ _ _ hv
 | mark=>exact fun hk he ⟨τ,h0,a,b,c⟩=>⟨τ,h0,a,b,hk _ _ _ c⟩
 | defer f as=>
  intro K K' E E' σ h hk he hv
  simp only [vc] at hv ⊢
  split at hv
  ·exact hk _ _ _ hv
  ·exact hv.elim
 | GY g ps np body Wz WA=>
  intro K K' E E' σ h hk he hv
  simp only [vc] at hv ⊢
  split at hv
  ·refine fun l r rd a b c=>T.aaO _ _ _ _ _ _ _ _ (fun args h K K' hk ⟨x1,x2,x3⟩=>⟨x1,x2,Wz (fun e σ' h' k=>by
    cases e with
    | normal=>exact ⟨k.1,WA (fun e _ kQ k=>⟨k.1,hk _ _ k.2⟩) (fun _ _ _ k=>k) k.2⟩
    | _=>exact k) (fun _ _ _ k=>k) x3⟩) (fun d h' k=>?_) (hv l r rd a b c)
   unfold GZ at k ⊢
   split at k
   ·exact hk _ _ _ k
   ·exact k.elim
  ·exact hv.elim
variable {P:Program} {T:bm} {κ:cp} {h:aa} {w:World} {σ:Fr} {n:Nat} {a:Act}
theorem jF.le [aN] {τ:Fr} (hp:jF κ w σ n a) (l:τ.le σ):jF κ w τ n a:=
 ⟨hp.size,fun i=>by
  rcases l.1 i with e | e
  ·rw [e]; exact .undef _
  ·rw [e]; exact hp.env i,by rw [l.2]; exact hp.defs,hp.kG⟩
theorem Hu {F:Fence} {m:Nat} {c:Code} {Q:Exit→Act→World→Prop} {X:Type} (I:X→Act→World→Prop) (μ:X→Nat) (x0:X) {a:Act} {w:World} (h₀:I x0 a w)
  (round:∀x a w,I x a w→c.wpIn F m P (Exit.then (fun a' w'=>∃x',I x' a' w'∧μ x'<μ x) Q) a w):(Code.loop c).wpIn F m P Q a w:=by
 intro b k cs Bl hb hr
 have key:∀j x a w,μ x=j→I x a w→
   ∃e a' w',Q e a' w'∧ArrivesIn (Machine.fenced P F) P (lone (b.atR a (.code c::.inLoop c::k)) cs w) b k cs e a' w':=by
  intro j
  induction j using Nat.strongRecOn with
  | _ j ih=>
   intro x a w hn hI
   obtain ⟨e,a₁,w₁,hq,C8⟩:=round x a w hI b (.inLoop c::k) cs Bl hb hr
   cases e with
   | normal=>
    obtain ⟨x',Zs,hZ⟩:=hq
    obtain ⟨e₂,a₂,w₂,ZS,R8⟩:=ih (μ x') (hn▸hZ) x' a₁ w₁ rfl Zs
    exact ⟨e₂,a₂,w₂,ZS,.of_steps (StepsIn.trans C8 (.one (fenced_calm hb hr rfl) stepR_inLoop)) R8⟩
   | exit id=>exact ⟨_,a₁,w₁,hq,.pass (x:=.inLoop c) rfl (fun _ _=>.inl (by simp)) C8⟩
   | goto l=>exact ⟨_,a₁,w₁,hq,.pass (x:=.inLoop c) rfl (fun _ _=>.inl (by simp)) C8⟩
   | ret=>exact ⟨_,a₁,w₁,hq,.pass (x:=.inLoop c) rfl (fun _ _=>.inl (by simp)) C8⟩
   | panic ch=>exact ⟨_,a₁,w₁,hq,.pass (x:=.inLoop c) rfl (fun _ _=>.inl (by simp)) C8⟩
   | outgrown=>exact ⟨_,a₁,w₁,hq,.pass (x:=.inLoop c) rfl (fun _ _=>.inl (by simp)) C8⟩
 obtain ⟨e,a',w',hq,C8⟩:=key _ x0 a w rfl h₀
 exact ⟨e,a',w',hq,.of_steps (.one (fenced_calm hb hr rfl) stepR_loop) C8⟩
theorem Inv.lE [aN] (hi:Inv κ h w) {id:Nat} {o o':cR} {p:Place} {ob:Obj} (ho:h.f id=some o) (hp:κ.loc id=some p) (hl:o.live=true) (Se:o'.live=true) (hr:gf κ (w.lE p.blk ob) p o') (hn':∀b,mg o' p b→p.blk=b:=by intro b h; exact h.zD (by simp)):
  Inv κ (h.set id o') (w.lE p.blk ob)∧Ev κ h w κ (h.set id o') (w.lE p.blk ob):=by
 have:=Inv.change (p':=p) (o':=o') hi ho hp hl Se (w':=w.lE p.blk ob) (by simp) (by simpa using hi.ij id p hp) (.inl rfl) (Nat.le_refl _) (fun _=>rfl) (fun _=>rfl) rfl rfl rfl
  (fun b _ hb=>World.Iw hb) (by rw [cp.rm hp]; exact hr) (.inl rfl) hn'
 Xs [cp.rm hp] at this
theorem Inv.DG [aN] (hi:Inv κ h w) {r:Nat} {st:MU} {p:Place} {R:Loop} (ho:h.f r=some (.lp st)) (hp:κ.loc r=some p) (hR:p.rc=some R):p.aR=1∧¬κ.gJ p.blk∧w.heap[p.blk]? =some (.loop (st.on R)):=by
 obtain ⟨p',h1,h2,h3,R',h4,h5⟩:=hi.obj r _ ho
 rw [hp] at h1
 cases h1
 rw [hR] at h4
 cases h4
 exact ⟨h2,h3,h5⟩
theorem Inv.OD [aN] (hi:Inv κ h w) {r:Nat} {st:MU} {p:Place} {R:Loop} (st':MU) (ho:h.f r=some (.lp st)) (hp:κ.loc r=some p) (hR:p.rc=some R):
  Inv κ (h.set r (.lp st')) (w.lE p.blk (.loop (st'.on R)))∧Ev κ h w κ (h.set r (.lp st')) (w.lE p.blk (.loop (st'.on R))):=by
 obtain ⟨h1,h2,h3⟩:=hi.DG ho hp hR
 exact hi.lE ho hp rfl rfl ⟨h1,h2,R,hR,World.Ma (hi.ij r p hp)⟩
theorem jF.params [aN] (hp:jF κ w σ n a) {ps:List Nat} (vY:∀t∈ps,t<n) {vs:List Value} {args:List D} (r:bP κ w vs args):
  jF κ w (σ.params ps args) n { tmps:=(ps.zip vs).foldl (fun tmps p=>tmps.setIfInBounds p.1 p.2) a.tmps,defers:=[] }:=by
 have key:∀(ps:List Nat) (vs:List Value) (args:List D) (σ:Fr) (a:Act),(∀t∈ps,t<n)→bP κ w vs args→jF κ w σ n a→
   jF κ w ((ps.zip args).foldl (fun σ p=>σ.put (some p.1) p.2) σ) n { tmps:=(ps.zip vs).foldl (fun tmps p=>tmps.setIfInBounds p.1 p.2) a.tmps,defers:=a.defers }:=by
  intro ps
  induction ps with
  | nil=>intro vs args σ a _ _ h; simpa using h
  | cons t ps ih=>
   intro vs args σ a ht r h
   cases r with
   | nil=>simpa using h
   | cons r1 rs=>
    simp only [List.zip_cons_cons,List.foldl_cons]
    exact ih _ _ _ { a with tmps:=a.tmps.setIfInBounds t _ } (fun x hx=>ht x (by simp [hx])) rs (h.put (some t) (fun x hx=>by cases hx; exact ht t (by simp)) r1)
 have:=key ps vs args { σ with defs:=[] } { a with defers:=[] } vY r ⟨hp.size,hp.env,.nil,hp.kG⟩
 exact this
theorem Rr (ps:Array Tmp) (vs:Array Value) (tmps:Array Value):((ps.zip vs).foldl (fun tmps (t,a)=>tmps.setIfInBounds t a) tmps)=((ps.toList.zip vs.toList).foldl (fun tmps p=>tmps.setIfInBounds p.1 p.2) tmps):=by
 rw [←Array.foldl_toList,Array.toList_zip]
theorem rU [aN]:∀(c:Code) (s:dL) (pl:cj) (hc:comp P n pl c=some s) (ro:Option Nat) (Bl:pl.rd=false→ro=none) (κ0:cp) (h0:aa) (w0:World) (hT:T.nU P κ0 w0) (r9:Inv κ0 h0 w0) (K:Ex→Fr→aa→Prop) (E:Fr→D→aa→Prop) (κ:cp) (h:aa) (w:World) (σ:Fr) (a:Act),
  Inv κ h w→jF κ w σ n a→Ev κ0 h0 w0 κ h w→vc T s K E σ h→c.wpIn (FW ro) 0 P (QK κ0 h0 w0 n K E) a w:=by
 intro c
 induction c with
 | skip=>intro s pl hc ro Bl κ0 h0 w0 hT r9 K E κ h w σ a hi hp ev hv; cases hc; exact wpIn_skip ⟨κ,h,σ,hv,hi,hp,ev⟩
 | region id ops draw=>
  intro s pl hc ro Bl κ0 h0 w0 hT r9 K E κ h w σ a hi hp ev hv
  simp only [comp,Option.map_eq_some_iff] at hc
  obtain ⟨s1,FN,rfl⟩:=hc
  obtain ⟨τ,hh,t1,t2,hv⟩:∃τ hh,Fr.le τ σ∧aa.sub hh h∧vc T s1 K E τ hh:=by
   by_cases R9:pl.YY.contains id=true
   ·rw [if_pos R9] at hv
    obtain ⟨τ,hh,a1,a2,a3⟩:=hv
    exact ⟨τ,hh,a1,a2,a3⟩
   ·rw [if_neg R9] at hv
    exact ⟨σ,h,⟨fun i=>.inr rfl,rfl⟩,aa.aU h,hv⟩
  replace hp:=hp.le t1
  replace hi:=hi.sub t2
  replace ev:=ev.sub t2
  clear t1 t2
  unfold HI at FN
  cases draw with
  | false=>
   simp only at FN
   split at FN
   ·ab fa hfa
    split at FN
    ·ab hrd
     simp only [Option.map_eq_some_iff] at FN
     obtain ⟨l,hl,rfl⟩:=FN
     have Ws:=Bl hrd
     subst Ws
     simp only [Option.bind_eq_some_iff] at hfa
     obtain ⟨o,ho,hd⟩:=hfa
     have mU:0<ops.size:=by
      have:=(Array.getElem?_eq_some_iff.1 ho).1
      omega
     refine wpIn_region ?_
     have er:List.range ops.size=List.range (ops.size - 1)++[ops.size - 1]:=by
      conv=>lhs; rw [show ops.size=ops.size - 1+1 by omega]
      rw [List.range_succ]
     rw [er]
     refine sI hT r9 (Kn:=fun σ' h'=>vc T (.defer fa.1 fa.2) K E σ' h') (fun κ' h' w' σ' a' k i' p' e'=>?_) _ _ hl κ hh w τ a hi hp ev hv
     unfold HL at hd
     split at hd
     case h_2=>cases hd
     ab N_ adB
     split at hd
     case h_2=>cases hd
     ab cc fy
     split at hd
     case h_2=>cases hd
     ab fo j4
     split at hd
     case h_2=>cases hd
     ab f' as' e1 e2
     cases hd
     simp only [vc] at k
     have rf:=bp p' e1
     have ra:=kl p' e2
     generalize σ'.ev f'=df at rf k
     split at k
     case h_2=>exact k.elim
     ab kf first cap
     generalize hfv:a'.eval fo=fv at rf
     cases rf with
     | func s1 s2 r1 r2=>
     ab v1 v2
     rw [rY]
     unfold Rm
     simp only [ho]
     rw [if_pos (by simp [Region.wanted,adB])]
     unfold Oper.wpIn
     refine ⟨fun _ _=>trivial,?_⟩
     have e_:(Oper.semAt (FW none).round a'.eval o).run P w'=.ok (.defer { target:=.fn (.func kf) v2,args:=v1++cc.args.map a'.eval }) w':=by
      show (execOp a'.eval o).run P w'=_
      simp only [execOp,fy,resolve,j4,hfv,Deferred.ofValue,Sem.run_bind,Sem.run_pure,Result.andThen]
     rw [e_]
     simp only [Oper.uponIn,N_,Act.put]
     refine ⟨κ',h',_,k,i',⟨p'.size,p'.env,.cons (.mk (bP.gV s2 r2) ?_) p'.defs,p'.kG⟩,e'⟩
     simp only [Array.toList_append,Array.toList_map]
     exact (bP.gV s1 r1).append ra
    ·cases FN
   ·simp only [Option.map_eq_some_iff] at FN
    obtain ⟨l,hl,rfl⟩:=FN
    refine wpIn_region ?_
    have:=sI (ro:=ro) hT r9 (K:=K) (E:=E) (Kn:=K .normal) (l2:=[]) (fun κ' h' w' σ' a' k i' p' e'=>⟨κ',h',σ',k,i',p',e'⟩) _ _ hl κ hh w τ a hi hp ev hv
    Xs [List.append_nil] at this
  | true=>
   simp only [Option.map_eq_some_iff] at FN
   obtain ⟨l,hl,rfl⟩:=FN
   unfold ND at hl
   simp only at hl
   split at hl
   ·ab ord ajN
    split at hl
    ·ab os hos
     split at hl
     ·ab kR
      cases hl
      obtain ⟨c1,c2,c3⟩:=kR
      refine wpIn_region_draw fun t=>?_
      have e1:Ev κ hh w κ hh { w with drawn:=w.drawn+1 }:=Ev.of_heap rfl rfl rfl rfl
      have ZB:Inv κ hh { w with drawn:=w.drawn+1 }:=hi.of_heap rfl
      have hp1:=hp.mono (e1.le hi)
      simp only [Region.schedule,c1,Bool.true_or,if_true]
      refine Lb hT r9 (m:=DF l) (Ed:=fun f d h=>∀σ:Fr,σ.low (DF l)=f→E σ d h) (fun σ d h k=>k σ rfl) (cfg:=pl.cfg) (dr:=true) (r:=id) ops.size t _ κ hh _ τ a ZB hp1 (ev.trans e1) ?_
      refine qG ord ops.size l _ (List.range ops.size) τ hh c2 hos (by simp) (fun j hj _=>by simpa using hj) Down.none c3 (qo (fun _ _ k=>k) (fun σ d h k σ' e=>?_) hv)
      have e1:(σ'.low (DF l)).defs=(σ.low (DF l)).defs:=by rw [e]
      refine k σ' e1 fun a ha=>?_
      have e2:(σ'.low (DF l)).env a=(σ.low (DF l)).env a:=by rw [e]
      simpa [Fr.low,ha] using e2
     ·cases hl
    ·cases hl
   ·cases hl
 | seq x y ihx ihy=>
  intro s pl hc ro Bl κ0 h0 w0 hT r9 K E κ h w σ a hi hp ev hv
  simp only [comp] at hc
  split at hc
  ·ab sx sy h1 h2
   cases hc
   refine wpIn_seq (wpIn_mono (ihx sx pl h1 ro Bl κ0 h0 w0 hT r9 _ E κ h w σ a hi hp ev hv) fun e a' w' q=>?_)
   cases e with
   | normal=>obtain ⟨κ',h',σ',k,i',p',e'⟩:=q; exact ihy sy pl h2 ro Bl κ0 h0 w0 hT r9 K E κ' h' w' σ' a' i' p' e' k
   | _=>exact q
  ·cases hc
 | cond c x y ihx ihy=>
  intro s pl hc ro Bl κ0 h0 w0 hT r9 K E κ h w σ a hi hp ev hv
  simp only [comp] at hc
  split at hc
  ·ab oc sx sy h00 h1 h2
   cases hc
   have rc:=bp hp h00
   simp only [vc] at hv
   split at hv
   ·ab t ht
    have mark:σ.mark oc t=σ:=by
     cases oc with
     | t j=>exact Fr.kq ht
     | _=>rfl
    rw [ht] at rc
    generalize Sj:a.eval c=v at rc
    cases rc
    refine wpIn_cond Sj ?_
    cases t with
    | true=>exact ihx sx pl h1 ro Bl κ0 h0 w0 hT r9 K E κ h w _ a hi hp ev (mark▸hv.1 rfl)
    | false=>exact ihy sy pl h2 ro Bl κ0 h0 w0 hT r9 K E κ h w _ a hi hp ev (mark▸hv.2 rfl)
   ·exact hv.elim
  ·cases hc
 | block id x ih=>
  intro s pl hc ro Bl κ0 h0 w0 hT r9 K E κ h w σ a hi hp ev hv
  simp only [comp,Option.map_eq_some_iff] at hc
  obtain ⟨sx,h1,rfl⟩:=hc
  refine wpIn_block (wpIn_mono (ih sx pl h1 ro Bl κ0 h0 w0 hT r9 _ E κ h w σ a hi hp ev hv) fun e a' w' q=>?_)
  cases e with
  | exit i=>
   obtain ⟨κ',h',σ',k,r⟩:=q
   simp only at k
   simp only [Exit.inBlock]
   by_cases e:i=id
   ·rw [if_pos e] at k ⊢; exact ⟨κ',h',σ',k,r⟩
   ·rw [if_neg e] at k ⊢; exact ⟨κ',h',σ',k,r⟩
  | _=>exact q
 | loop x ih=>
  intro s pl hc ro Bl κ0 h0 w0 hT r9 K E κ h w σ a hi hp ev hv
  simp only [comp,Option.map_eq_some_iff] at hc
  obtain ⟨sx,h1,rfl⟩:=hc
  obtain ⟨X,F,H,μ,I,x0,a1,a2,a3,a4⟩:=hv
  refine Hu (X:=X) (fun x a w=>I x∧∃κ,Inv κ (H x) w∧jF κ w (F x) n a∧Ev κ0 h0 w0 κ (H x) w) μ x0 ⟨a1,κ,hi.sub a3,hp.le a2,ev.sub a3⟩ ?_
  rintro x a w ⟨hx,κ,hi,hp,ev⟩
  refine wpIn_mono (ih sx pl h1 ro Bl κ0 h0 w0 hT r9 _ E κ (H x) w (F x) a hi hp ev (a4 x hx)) fun e a' w' q=>?_
  cases e with
  | normal=>
   obtain ⟨κ',h',σ',⟨x',k1,k2,k3,k4⟩,i',p',e'⟩:=q
   exact ⟨x',⟨k1,κ',i'.sub k3,p'.le k2,e'.sub k3⟩,k4⟩
  | _=>exact q
 | rangeFunc g ps np body Wz WA=>
  intro s pl hc ro Bl κ0 h0 w0 hT r9 K E κ h w σ a hi hp ev hv
  simp only [comp] at hc
  split at hc
  case isFalse=>cases hc
  ab kR
  obtain ⟨hrd,vY⟩:=kR
  have Ws:=Bl hrd
  subst Ws
  split at hc
  case h_2=>cases hc
  ab og sa sb e1 e2 e3
  cases hc
  have rg:=bp hp e1
  simp only [vc] at hv
  generalize σ.ev og=dg at rg hv
  split at hv
  case h_2=>exact hv.elim
  ab k first cap
  generalize hgv:a.eval g=gv at rg
  cases rg with
  | func s1 s2 r1 r2=>
  ab v1 v2
  refine Rl fun fn _=>?_
  let R0:Loop:={ state:=.ready,pending:=none,fn:=fn,tmps:=a.tmps,params:=ps,assign:=np,body:=body,defers:=w.heap.size }
  obtain ⟨rd,adV,ZU⟩:=hi.sB
  let p1:Place:={ blk:=w.heap.size,base:=0,aR:=1,cap:=0,sz:=0,rc:=none }
  obtain ⟨i1,Bb⟩:=hi.alloc adV ZU (.deferred (some [])) .Yc p1 rfl rfl rfl ⟨rfl,fun hx=>by have:=hi.fl _ hx; simp [p1] at this,dq w _⟩
  obtain ⟨r,Wq,ZT⟩:=i1.sB
  have Wr:r≠rd:=fun e=>by subst e; simp [cp.put] at Wq
  let w1:=w.alloc (.deferred (some []))
  have Wt:w1.heap.size=w.heap.size+1:=by simp [w1]
  let p2:Place:={ blk:=w1.heap.size,base:=0,aR:=1,cap:=0,sz:=0,rc:=some R0 }
  obtain ⟨i2,ev2⟩:=i1.alloc Wq ZT (.loop R0) (.lp (.done .normal)) p2 rfl rfl rfl ⟨rfl,fun hx=>by have:=i1.fl _ hx; simp [p2,w1] at this,R0,rfl,dq w1 _⟩
  have hrf:h.f r=none:=by
   simp only [aa.dN,if_neg Wr] at ZT; exact ZT
  replace hv:=hv w1.heap.size r rd hrf ZU Wr
  have RZ:=Bb.trans ev2
  have Z5:Le κ0 w0 _ _:=(ev.trans RZ).le r9
  have le2:Le κ w _ _:=RZ.le hi
  have aaa:((κ.put rd p1).put r p2).loc r=some p2:=by simp [cp.put]
  have aen:((κ.put rd p1).put r p2).loc rd=some p1:=by simp [cp.put,Ne.symm Wr]
  have te:=hT.r _ _ _ _ _ _ _ _ Z5 (fun args h K K' hk ⟨x1,x2,x3⟩=>⟨x1,x2,iA (fun e σ' h' k=>by
   cases e with
   | normal=>exact ⟨k.1,iA (fun e _ kQ k=>⟨k.1,hk _ _ k.2⟩) (fun _ _ _ k=>k) k.2⟩
   | _=>exact k) (fun _ _ _ k=>k) x3⟩) ?_ hv
  ·obtain ⟨LG,te⟩:=te
   refine ⟨w1.heap.size,[{ target:=.collected w.heap.size,args:= #[] }],w1.alloc (.loop R0),{ target:=.fn (.func k) v2,args:=v1++ #[.func (.yield w1.heap.size) #[] #[]] },w1.alloc (.loop R0),k,v1++ #[.func (.yield w1.heap.size) #[] #[]]++v2,w1.alloc (.loop R0),?_,?_,fun _ _=>trivial,?_,uK,?_⟩
   ·have:=FO (P:=P) (w:=w) fn a.tmps ps np body
    rw [←Wt] at this
    exact this
   ·have ec:Array.map a.eval #[Operand.const (.func (.yield w1.heap.size) #[] #[])]= #[.func (.yield w1.heap.size) #[] #[]]:=by simp; rfl
    simp only [resolve,YB,hgv,Deferred.ofValue,Sem.run_pure,ec]
   ·simp only [invoke,gp LG]
   ·refine B_ ((te _ i2 ?_).mono fun e w3 ⟨o,h',κ',q1,q2,q3,q4⟩=>?_)
    ·simp only [Array.toList_append]
     refine bP.append (bP.append (bP.gV s1 fun i d hd=>(r1 i d hd).mono le2) ?_) (bP.gV s2 fun i d hd=>(r2 i d hd).mono le2)
     exact .cons (.func rfl rfl (fun i d hd=>by simp at hd) (fun i d hd=>by simp at hd)) .nil
    ·cases q2 with
     | panic r=>exact q1.elim
     | ret rr=>
      simp only [dF.to] at q1
      unfold GZ at q1
      split at q1
      case h_2=>exact q1.elim
      ab e he
      have Yt:=q4.le i2
      obtain ⟨p',l1,l2,l3,l4⟩:=Yt.loc r p2 aaa
      have:=l4.one rfl
      subst this
      obtain ⟨pd,d1,d2,d3,d4⟩:=Yt.loc rd p1 aen
      have:=d4.one rfl
      subst this
      obtain ⟨b1,b2,b3⟩:=q3.DG he l1 rfl
      obtain ⟨i4,T7⟩:=q3.lE (o':=.other) (ob:=.loop { (MU.done e).on R0 with state:=.exhausted }) he l1 rfl rfl ⟨b1,b2⟩
      have Pz:(h'.del r).sub (h'.set r .other):=fun i o ho=>by
       simp only [aa.T1,aa.dN] at ho ⊢
       split at ho
       ·cases ho
       ·ab iC; rw [if_neg iC]; exact ho
      have Oe:jF κ' (w3.lE p2.blk (.loop { (MU.done e).on R0 with state:=.exhausted })) { σ with defs:=⟨.yield rd,[],[]⟩::σ.defs } n { a with defers:=[{ target:=.collected w.heap.size,args:= #[] }]++a.defers }:=by
       have:=hp.mono ((RZ.trans (q4.trans T7)).le hi)
       exact ⟨this.size,this.env,.cons (.col d1 rfl rfl) this.defs,this.kG⟩
      have adx:=UD (P:=P) (w:=w3) (l:=p2.blk) b3 (by
       simp only [MU.on]
       split<;>simp)
      refine ⟨_,_,adx,?_⟩
      have Yh:=(ev.trans (RZ.trans (q4.trans T7))).sub Pz
      have hin:=i4.sub Pz
      cases e with
      | normal=>exact ⟨κ',_,_,q1,hin,Oe,Yh⟩
      | ret=>exact wpIn_ret ⟨κ',_,_,q1,hin,Oe,Yh⟩
      | exit id=>exact wpIn_exit ⟨κ',_,_,q1,hin,Oe,Yh⟩
  ·rintro args h3 K2 ⟨x1,x2,x3⟩ κ3 w3 Yt vs Yk hr3
   obtain ⟨p',l1,l2,l3,l4⟩:=Yt.loc r p2 aaa
   have:=l4.one rfl
   subst this
   obtain ⟨b1,b2,b3⟩:=Yk.DG x2 l1 rfl
   have hlen:vs.size=ps.size:=by
    have:=hr3.length
    simp at this x1
    omega
   refine ⟨_,_,_,_,YC b3 hlen,?_⟩
   have aeh:=(Z5.trans Yt)
   have hp3:jF κ3 w3 σ n a:=hp.mono (le2.trans Yt)
   have Wn:=hp3.params (ps:=ps.toList) (fun t ht=>by simpa using List.all_eq_true.1 vY t ht) hr3
   have hT3:=hT.mono aeh
   have key:=Wz sa { pl with rd:=true } e2 (some w1.heap.size) (fun h=>by cases h) κ3 h3 w3 hT3 Yk _ (fun _ _ _=>False) κ3 h3 w3 _ _ Yk Wn (Ev.refl _ _ _) x3
   refine MQ (F:=FW none) trivial ?_
   have Zx:(((MU.done Ex.normal).on R0).params.zip vs).foldl (fun tmps (t,a)=>tmps.setIfInBounds t a) ((MU.done Ex.normal).on R0).tmps=(ps.toList.zip vs.toList).foldl (fun tmps p=>tmps.setIfInBounds p.1 p.2) a.tmps:=Rr ps vs a.tmps
   rw [Zx]
   refine wpIn_mono key fun e a4 w4 q=>?_
   cases e with
   | normal=>
    obtain ⟨κ4,h4,σ4,⟨k1,k2⟩,i4,p4,T7⟩:=q
    have aej:=T7.le Yk
    obtain ⟨pp,m1,m2,m3,m4⟩:=aej.loc r p2 l1
    have:=m4.one rfl
    subst this
    obtain ⟨c1,c2,c3⟩:=i4.DG k1 m1 rfl
    obtain ⟨i5,ev5⟩:=i4.OD .busy k1 m1 rfl
    refine ⟨_,Ph c3 rfl,?_⟩
    have aeg:=WA sb { pl with rd:=true } e3 (some w1.heap.size) (fun h=>by cases h) κ3 h3 w3 hT3 Yk _ (fun _ _ _=>False) κ4 _ _ σ4 a4 i5 (p4.mono (ev5.le i4)) (T7.trans ev5) k2
    refine wpIn_mono aeg fun e a6 w6 q=>?_
    have fin:∀(e:Ex) (κ6:cp) (h6:aa),Pg r K2 e h6→Inv κ6 h6 w6→Ev κ3 h3 w3 κ6 h6 w6→
      ∃v w',(Instr.endRound p2.blk e.code).run P w6=.ok v w'∧∃o h' κ',dF.to K2 (fun _ _=>False) o h'∧jH κ' w' o (.returned v)∧Inv κ' h' w'∧Ev κ3 h3 w3 κ' h' w':=fun e κ6 h6 ⟨g1,g2⟩ i6 T8=>by
     have aek:=T8.le Yk
     obtain ⟨pq,n1,n2,n3,n4⟩:=aek.loc r p2 l1
     have:=n4.one rfl
     subst this
     obtain ⟨t1,t2,t3⟩:=i6.DG g1 n1 rfl
     obtain ⟨i7,ev7⟩:=i6.OD (.done e) g1 n1 rfl
     exact ⟨_,_,Tl e.code t3,.ret (.bool e.code.isNone),_,κ6,g2,.ret (.bool _),i7,T8.trans ev7⟩
    cases e with
    | normal=>obtain ⟨κ6,h6,σ6,k6,i6,_,T8⟩:=q; exact fin .normal κ6 h6 k6 i6 T8
    | ret=>obtain ⟨κ6,h6,σ6,k6,i6,_,T8⟩:=q; exact fin .ret κ6 h6 k6 i6 T8
    | exit id=>obtain ⟨κ6,h6,σ6,k6,i6,_,T8⟩:=q; exact fin (.exit id) κ6 h6 k6 i6 T8
    | panic ch=>obtain ⟨_,_,_,_,_,_,k,_⟩:=q; exact k.elim
    | goto t=>exact q.elim
    | outgrown=>exact q.elim
   | ret=>obtain ⟨_,_,_,k,_⟩:=q; exact k.elim
   | exit id=>obtain ⟨_,_,_,k,_⟩:=q; exact k.elim
   | panic ch=>obtain ⟨_,_,_,_,_,_,k,_⟩:=q; exact k.elim
   | goto t=>exact q.elim
   | outgrown=>exact q.elim
 | exit id=>intro s pl hc ro Bl κ0 h0 w0 hT r9 K E κ h w σ a hi hp ev hv; cases hc; exact wpIn_exit ⟨κ,h,σ,hv,hi,hp,ev⟩
 | ret=>intro s pl hc ro Bl κ0 h0 w0 hT r9 K E κ h w σ a hi hp ev hv; cases hc; exact wpIn_ret ⟨κ,h,σ,hv,hi,hp,ev⟩
 | _=>intro s pl hc; simp [comp] at hc
inductive eK where
 | tmp (t:Nat)
 | cell (a:Nat) (k:Option Nat)
def qd (P:Program):List ResultVar→Option (List eK)
 | []=>some []
 | .tmp t::l=>(qd P l).map (.tmp t::·)
 | .cell a t::l=>match shapeOf P t,qd P l with
  | some k,some r=>some (.cell a k::r)
  | _,_=>none
def eg (σ:Fr) (h:aa):List eK→Option (List D)
 | []=>some []
 | .tmp t::l=>(eg σ h l).map (σ.env t::·)
 | .cell a k::l=>match eJ h k (σ.env a),eg σ h l with
  | some d,some ds=>some (d::ds)
  | _,_=>none
def xx:List D→D
 | [d]=>d
 | ds=>.tuple ds
def AQ (k:Nat):List D→Nat→D
 | [],_=>.undef
 | d::ds,i=>if i=k then d else AQ (k+1) ds i
def f8 (args:List D):Fr:={ env:=AQ 0 args,defs:=[] }
theorem Cf:∀(args:List D) (k i:Nat),AQ k args i=if k≤i then args.getD (i - k) .undef else .undef
 | [],k,i=>by simp [AQ]
 | d::ds,k,i=>by
  simp only [AQ]
  rw [Cf ds (k+1) i]
  by_cases e:i=k
  ·subst e; simp
  ·rw [if_neg e]
   by_cases e1:k≤i
   ·rw [if_pos e1,if_pos (by omega)]
    have:i - k=(i - (k+1))+1:=by omega
    rw [this]
    simp
   ·rw [if_neg e1,if_neg (by omega)]
def sR (rs:List eK) (R:dF→aa→Prop) (e:Ex) (σ:Fr) (h:aa):Prop:=
 match e with
 | .exit _=>False
 | _=>σ.defs=[]∧∃ds,eg σ h rs=some ds∧
   ((∃h',h'.sub h∧R (.ret (xx ds)) h')∨(∃h',h'.sub (ff h ds)∧R (.ret (xx (ds.map (plain h)))) h'))
def OT (R:dF→aa→Prop) (σ:Fr) (d:D) (h:aa):Prop:=σ.defs=[]∧∃h',h'.sub h∧R (.panic d) h'
def Pf (tmps:Array Value) (x:ResultVar):Sem Value:=
 match x with
 | .tmp t=>pure (tmps.getD t undef)
 | .cell a t=>do loadVar t (←asAddr (tmps.getD a undef))
theorem G2 (fn:Func) (tmps:Array Value):results fn tmps=(do let vs ←fn.results.mapM (Pf tmps); pure (if h:vs.size=1 then vs[0] else .tuple vs)):=rfl
theorem nH [aN] (hi:Inv κ h w) (hp:jF κ w σ n a):∀(l:List ResultVar) (rs:List eK) (ds:List D),qd P l=some rs→eg σ h rs=some ds→
  ∃vs:List Value,(l.mapM (Pf a.tmps)).run P w=.ok vs w∧bP κ w vs ds
 | [],rs,ds,h1,h2=>by
  simp [qd] at h1
  subst h1
  simp [eg] at h2
  subst h2
  exact ⟨[],by simp,.nil⟩
 | .tmp t::l,rs,ds,h1,h2=>by
  simp only [qd,Option.map_eq_some_iff] at h1
  obtain ⟨UC,h3,rfl⟩:=h1
  simp only [eg,Option.map_eq_some_iff] at h2
  obtain ⟨Gj,h4,rfl⟩:=h2
  obtain ⟨vs,e,r⟩:=nH hi hp l UC Gj h3 h4
  exact ⟨a.tmps.getD t undef::vs,by simp only [List.mapM_cons,Pf,Sem.run_bind,Sem.run_pure,Result.andThen,e],.cons (hp.env t) r⟩
 | .cell x t::l,rs,ds,h1,h2=>by
  simp only [qd] at h1
  split at h1
  ·ab k UC h3 h4
   cases h1
   simp only [eg] at h2
   split at h2
   ·ab d Gj h5 h6
    cases h2
    obtain ⟨vs,e,r⟩:=nH hi hp l UC Gj h4 h6
    obtain ⟨v,g1,g2⟩:=tA (P:=P) hi h3 (hp.env x) h5
    refine ⟨v::vs,?_,.cons g2 r⟩
    have g1':(Pf a.tmps (.cell x t)).run P w=.ok v w:=by
     simp only [Pf]
     generalize a.tmps.getD x undef=u at g1 ⊢
     unfold Instr.loadAt at g1
     cases u<;>first | (simp [Instr.sureAddr,Result.andThen] at g1; done) | skip
     ab o
     cases o with
     | none=>simp [Instr.sureAddr,Result.andThen] at g1
     | some ad=>simpa [Instr.sureAddr,asAddr] using g1
    simp only [List.mapM_cons,Sem.run_bind,g1',Sem.run_pure,Result.andThen,e]
   ·cases h2
  ·cases h1
theorem u5 {vs:List Value} {ds:List D} (r:bP κ w vs ds):cd κ w (if h:vs.toArray.size=1 then vs.toArray[0] else .tuple vs.toArray) (xx ds):=by
 cases r with
 | nil=>exact .tuple rfl fun i d e=>by simp at e
 | cons r t=>
  cases t with
  | nil=>exact r
  | cons r2 t=>
   rw [dif_neg (by simp)]
   exact (bP.cons r (.cons r2 t)).tuple
theorem l7 [aN] {fn:Func} {rs:List eK} {ds:List D} (hi:Inv κ h w) (hp:jF κ w σ n a) (hr:qd P fn.results.toList=some rs) (he:eg σ h rs=some ds):
  ∃vs:List Value,(results fn a.tmps).run P w=.ok (if h:vs.toArray.size=1 then vs.toArray[0] else .tuple vs.toArray) w∧bP κ w vs ds:=by
 obtain ⟨vs,e,r⟩:=nH hi hp _ _ _ hr he
 refine ⟨vs,?_,r⟩
 rw [G2,Array.mapM_eq_mapM_toList]
 simp only [Sem.run_bind,map_eq_pure_bind,e,Result.andThen,Sem.run_pure]
theorem qA [aN] {fn:Func} {args:List D} {vs:Array Value} (hi:Inv κ h w) (pt:bP κ w vs.toList args) (hn:args.length≤fn.ntmps):jF κ w (f8 args) fn.ntmps { tmps:=vs++Array.replicate (fn.ntmps - vs.size) undef,defers:=[] }:=by
 have hlen:=pt.length
 have mU:vs.size=args.length:=by simpa using hlen
 refine ⟨by simp; omega,fun i=>?_,.nil,hi.kG⟩
 simp only [f8]
 rw [Cf,if_pos (by omega),Nat.sub_zero]
 by_cases kD:i<args.length
 ·obtain ⟨v,e,r⟩:=pt.get i args[i] (by simp [kD])
  have e':vs[i]? =some v:=by simpa using e
  have e2:(vs++Array.replicate (fn.ntmps - vs.size) undef)[i]? =some v:=by
   rw [Array.getElem?_append_left (by omega)]; exact e'
  rw [Array.getD_eq_getD_getElem?,e2]
  simpa [kD] using r
 ·have:args.getD i .undef=.undef:=by simp [List.getD,kD]
  rw [this]; exact .undef _
theorem TQ [aN] (hT:T.nU P κ w) {fn:Func} {c:Code} {s:dL} {pl:cj} {rs:List eK} {args:List D} {vs:Array Value} {R:dF→aa→Prop} (hc:comp P fn.ntmps pl c=some s) (hr:qd P fn.results.toList=some rs)
  (hn:args.length≤fn.ntmps) (hv:vc T s (sR rs R) (OT R) (f8 args) h) (hi:Inv κ h w) (pt:bP κ w vs.toList args):
  c.wp P (bodyPost P fn fun e w'=>∃o h' κ',R o h'∧jH κ' w' o e∧Inv κ' h' w'∧Ev κ h w κ' h' w') { tmps:=vs++Array.replicate (fn.ntmps - vs.size) undef,defers:=[] } w:=by
 have hp:=qA hi pt hn
 have key:=wpIn_wide.1 (rU c s pl hc none (fun _=>rfl) κ h w hT hi _ _ κ h w _ _ hi hp (Ev.refl κ h w) hv)
 refine wp_mono key fun e a' w' q=>?_
 have ret:∀(x:Ex),x≠.exit 0→(∀i,x≠.exit i)→(∃κ' h' σ',sR rs R x σ' h'∧Inv κ' h' w'∧jF κ' w' σ' fn.ntmps a'∧Ev κ h w κ' h' w')→a'.defers=[]∧∃v,(results fn a'.tmps).run P w'=.ok v w'∧(∃o h' κ',R o h'∧jH κ' w' o (.returned v)∧Inv κ' h' w'∧Ev κ h w κ' h' w'):=fun x _ hx q=>by
  obtain ⟨κ',h',σ',k,i',p',e'⟩:=q
  have k':σ'.defs=[]∧∃ds,eg σ' h' rs=some ds∧((∃kQ,kQ.sub h'∧R (.ret (xx ds)) kQ)∨(∃kQ,kQ.sub (ff h' ds)∧R (.ret (xx (ds.map (plain h')))) kQ)):=by
   cases x with
   | exit i=>exact absurd rfl (hx i)
   | _=>exact k
  obtain ⟨k1,ds,k2,k3⟩:=k'
  have hd:a'.defers=[]:=by
   have:=p'.defs
   rw [k1] at this
   generalize a'.defers=dd at this
   cases this
   rfl
  obtain ⟨us,g1,g2⟩:=l7 (P:=P) i' p' hr k2
  refine ⟨hd,_,g1,?_⟩
  rcases k3 with ⟨kQ,s1,s2⟩ | ⟨kQ,s1,s2⟩
  ·exact ⟨_,kQ,κ',s2,.ret (u5 g2),i'.sub s1,e'.sub s1⟩
  ·obtain ⟨gP,i2,e2,r2⟩:=iQ i' g2
   exact ⟨_,kQ,gP,s2,.ret (u5 r2),i2.sub s1,(e'.trans e2).sub s1⟩
 cases e with
 | normal=>exact ret .normal (by simp) (by simp) q
 | ret=>exact ret .ret (by simp) (by simp) q
 | exit id=>obtain ⟨κ',h',σ',k,_⟩:=q; exact k.elim
 | panic chain=>
  obtain ⟨κ',h',d,v,σ',rfl,⟨k1,kQ,k2,k3⟩,r,p',i',e'⟩:=q
  have hd:a'.defers=[]:=by
   have:=p'.defs
   rw [k1] at this
   generalize a'.defers=dd at this
   cases this
   rfl
  exact ⟨hd,.panic d,kQ,κ',k3,.panic r,i'.sub k2,e'.sub k2⟩
 | goto l=>exact q.elim
 | outgrown=>exact q.elim
theorem cI.Ik [aN] (hT:T.nU P κ w) {f:FuncId} {fn:Func} {c:Code} {s:dL} {pl:cj} {rs:List eK} {args:List D} {R:dF→aa→Prop} (hf:P.funcs[f]? =some fn) (hb:fn.body=some c) (j4:fi P f=true) (hc:comp P fn.ntmps pl c=some s) (hr:qd P fn.results.toList=some rs)
  (hn:args.length≤fn.ntmps) (hv:vc T s (sR rs R) (OT R) (f8 args) h):cI P κ w f args h R:=
 ⟨j4,fun vs hi pt=>calls_of_wp hf hb (TQ hT hc hr hn hv hi pt)⟩
theorem aQ.Ik [aN] (hT:T.ok P) {f:FuncId} {fn:Func} {c:Code} {s:dL} {pl:cj} {rs:List eK} {args:List D} {R:dF→aa→Prop} (hf:P.funcs[f]? =some fn) (hb:fn.body=some c) (j4:fi P f=true) (hc:comp P fn.ntmps pl c=some s) (hr:qd P fn.results.toList=some rs)
  (hn:args.length≤fn.ntmps) (hv:vc T s (sR rs R) (OT R) (f8 args) h):aQ P f args h R:=
 ⟨j4,fun κ w=>(cI.Ik (hT.toY κ w) hf hb j4 hc hr hn hv).2⟩
def bJ [aN] (P:Program) (f:FuncId) (pl:cj):Option (dL×List eK×Nat):=
 match P.funcs[f]? with
 | none=>none
 | some fn=>match fn.body with
  | none=>none
  | some c=>match fi P f,comp P fn.ntmps pl c,qd P fn.results.toList with
   | true,some s,some rs=>some (s,rs,fn.ntmps)
   | _,_,_=>none
theorem cI.my [aN] (hT:T.nU P κ w) {f:FuncId} {s:dL} {rs:List eK} {m:Nat} {pl:cj} {args:List D} {R:dF→aa→Prop} (hs:bJ P f pl=some (s,rs,m)) (hn:args.length≤m) (hv:vc T s (sR rs R) (OT R) (f8 args) h):cI P κ w f args h R:=by
 unfold bJ at hs
 split at hs
 ·cases hs
 ·ab fn hf
  split at hs
  ·cases hs
  ·ab c hb
   split at hs
   ·ab s' UC h1 h2 h3
    cases hs
    exact cI.Ik hT hf hb h1 h2 h3 hn hv
   ·cases hs
theorem aQ.my [aN] (hT:T.ok P) {f:FuncId} {s:dL} {rs:List eK} {m:Nat} {pl:cj} {args:List D} {R:dF→aa→Prop} (hs:bJ P f pl=some (s,rs,m)) (hn:args.length≤m) (hv:vc T s (sR rs R) (OT R) (f8 args) h):aQ P f args h R:=by
 unfold bJ at hs
 split at hs
 ·cases hs
 ·ab fn hf
  split at hs
  ·cases hs
  ·ab c hb
   split at hs
   ·ab s' UC h1 h2 h3
    cases hs
    exact aQ.Ik hT hf hb h1 h2 h3 hn hv
   ·cases hs
end Go.Proofs.YtpklkpkfgmoghaaGreatDoor.Zz
namespace Go.Proofs.YtpklkpkfgmoghaaGreatDoor.Zz
section
variable {T:bm} {K:Ex→Fr→aa→Prop} {E:Fr→D→aa→Prop} {σ:Fr} {h:aa}
theorem Rj {l:List ep}:vc T (.ops l) K E σ h=fe T l (K .normal) E σ h:=rfl
theorem K4 {m:Nat} {l:List ep}:vc T (.fD m l) K E σ h=fe T l (K .normal) (fun σ=>Ed E m σ.defs σ.env) σ h:=rfl
theorem Az {K:Fr→aa→Prop}:fe T [] K E σ h=K σ h:=rfl
end
theorem NW {α:Type} {c:Prop} [Decidable c] {x:α} {K:α→Prop}:(∃d,(if c then some x else none)=some d∧K d)↔c∧K x:=by
 split<;>dj
theorem Ij {α β:Type} {c:Prop} [Decidable c] {x:α} {f:α→β}:Option.map f (if c then some x else none)=if c then some (f x) else none:=by
 split<;>rfl
theorem yv (n:Nat):bounds n none none=some (0,n):=by simp [bounds]
theorem yw (n:Nat) (k:IntKind) (u:Int):bounds n none (some (.int k u))=if 0≤u∧u≤n then some (0,u.toNat) else none:=by simp [bounds,nM]
theorem yy (n:Nat) (k:IntKind) (l:Int):bounds n (some (.int k l)) none=if 0≤l∧l≤n then some (l.toNat,n) else none:=by simp [bounds,nM]
theorem yz (n:Nat) (k k':IntKind) (l u:Int):bounds n (some (.int k l)) (some (.int k' u))=if 0≤l∧l≤u∧u≤n then some (l.toNat,u.toNat) else none:=by simp [bounds,nM]
theorem Ai (s:List UInt8) (lo hi:Option D):iv .str (.str s) lo hi none=(bounds s.length lo hi).map fun b=>.str ((s.drop b.1).take (b.2 - b.1)):=rfl
theorem Lz (s:List UInt8) (k:IntKind) (i:Int):bo (.ic (.str s) (.int k i))=if 0≤i∧i<s.length then some (.int .u8 ((s.getD i.toNat 0).toNat:Int)) else none:=by
 simp only [bo]
 by_cases h:0≤i
 ·rw [if_pos h]
  by_cases h2:i.toNat<s.length
  ·rw [List.getElem?_eq_getElem h2,if_pos ⟨h,by omega⟩]
   simp [List.getD,h2]
  ·rw [List.getElem?_eq_none (by omega),if_neg (by omega)]
 ·rw [if_neg h,if_neg (fun x=>h x.1)]
theorem xW (sz:Nat) (xs:List (List D)) (k:IntKind) (i:Int):bo (.a8 sz (.sl xs) (.int k i))=if (0≤i∧i<xs.length)∧(xs.getD i.toNat []).length=sz then some (.c8 (xs.getD i.toNat []) 0) else none:=by
 simp only [bo]
 by_cases h:0≤i
 ·rw [if_pos h]
  by_cases h2:i.toNat<xs.length
  ·rw [List.getElem?_eq_getElem h2]
   have:xs.getD i.toNat []=xs[i.toNat]:=by simp [List.getD,h2]
   rw [this]
   have h3:i<(xs.length:Int):=by omega
   simp [h,h3]
  ·rw [List.getElem?_eq_none (by omega),if_neg (by omega)]
 ·rw [if_neg h,if_neg (fun x=>h x.1.1)]
theorem getD_map {α:Type} (l:List α) (f:α→List D) (i:Nat) (x:α) (h:i<l.length):(l.map f).getD i []=f (l.getD i x):=by
 simp [List.getD,h]
theorem LD (s:List UInt8) (i:Nat) (h:i<s.length):(eP s).getD i []=[.int .u8 ((s.getD i 0).toNat:Int)]:=getD_map s _ i 0 h
theorem uR (s:List UInt8):(eP s).all isByte=true:=by
 simp [eP,isByte]
theorem uS (s:List UInt8):(eP s).map byteOf=s:=by
 induction s with
 | nil=>rfl
 | cons b s ih=>simp only [eP,List.map_cons] at ih ⊢; rw [ih]; simp [byteOf]
theorem vF (s t:List UInt8):eP s++eP t=eP (s++t):=by simp [eP]
theorem vH (s:List UInt8) (n:Nat):(eP s).take n=eP (s.take n):=by simp [eP]
theorem vG (s:List UInt8) (n:Nat):(eP s).drop n=eP (s.drop n):=by simp [eP]
theorem RY (s:List UInt8) (i:Nat) (h:i<s.length):(eP s)[i]? =some [.int .u8 ((s.getD i 0).toNat:Int)]:=by
 simp [eP,List.getD,h]
theorem nO (s:List UInt8):(eP s).length=s.length:=by simp [eP]
theorem wS {rs:List eK} {d:D} {σ:Fr} {h:aa}:sR rs (fun o _=>o=.ret d) .ret σ h↔σ.defs=[]∧∃ds,eg σ h rs=some ds∧(xx ds=d∨xx (ds.map (plain h))=d):=by
 simp only [sR,dF.ret.injEq]
 constructor
 ·rintro ⟨h1,ds,h2,h3⟩
  refine ⟨h1,ds,h2,?_⟩
  rcases h3 with ⟨_,_,h3⟩ | ⟨_,_,h3⟩
  ·exact .inl h3
  ·exact .inr h3
 ·rintro ⟨h1,ds,h2,h3⟩
  refine ⟨h1,ds,h2,?_⟩
  rcases h3 with h3 | h3
  ·exact .inl ⟨.emp,aa.jb _,h3⟩
  ·exact .inr ⟨.emp,aa.jb _,h3⟩
theorem Eg {rs:List eK} {d:D} {σ:Fr} {h:aa}:sR rs (fun o _=>o=.ret d) .normal σ h↔σ.defs=[]∧∃ds,eg σ h rs=some ds∧(xx ds=d∨xx (ds.map (plain h))=d):=wS
theorem Z6 {l:List (Nat×D)} {σ:Fr} (h:∀p∈l,σ.env p.1=p.2) (hd:σ.defs=[]):(Bx l).le σ:=by
 refine ⟨fun i=>?_,by rw [hd]; rfl⟩
 simp only [Bx]
 induction l with
 | nil=>exact .inl rfl
 | cons p l ih=>
  obtain ⟨j,d⟩:=p
  simp only [gQ]
  by_cases e:i=j
  ·subst e
   rw [if_pos rfl]
   exact .inr (h (i,d) (by simp)).symm
  ·rw [if_neg e]
   exact ih fun p hp=>h p (by simp [hp])
def MP:List (Nat×D)→Fr→Prop
 | [],σ=>σ.defs=[]
 | (j,d)::l,σ=>σ.env j=d∧MP l σ
theorem Ic {σ:Fr}:MP [] σ=(σ.defs=[]):=rfl
theorem Dw {j:Nat} {d:D} {l:List (Nat×D)} {σ:Fr}:MP ((j,d)::l) σ=(σ.env j=d∧MP l σ):=rfl
theorem Gz:∀{l:List (Nat×D)} {σ:Fr},MP l σ→(Bx l).le σ
 | [],σ,h=>Z6 (fun p hp=>by simp at hp) h
 | (j,d)::l,σ,h=>by
  have ih:=Gz h.2
  refine ⟨fun i=>?_,ih.2⟩
  simp only [Bx,gQ]
  by_cases e:i=j
  ·subst e; rw [if_pos rfl]; exact .inr h.1.symm
  ·rw [if_neg e]; exact ih.1 i
theorem IH {h:aa}:aa.emp.sub h:=aa.jb h
theorem X6 {T:bm} {s:dL} {K:Ex→Fr→aa→Prop} {E:Fr→D→aa→Prop} {σ:Fr} {h:aa} {X:Type} (F:X→List (Nat×D)) (H:X→aa) (μ:X→Nat) (I:X→Prop) (x0:X) (h1:I x0) (h2:MP (F x0) σ) (h3:(H x0).sub h)
  (h4:∀x,I x→vc T s (fun e σ' h'=>match e with | .normal=>∃x',I x'∧MP (F x') σ'∧(H x').sub h'∧μ x'<μ x | e=>K e σ' h') E (Bx (F x)) (H x)):vc T (.loop s) K E σ h:=
 ⟨X,fun x=>Bx (F x),H,μ,I,x0,h1,Gz h2,h3,fun x hx=>iA (fun e σ h k=>by
  cases e with
  | normal=>obtain ⟨x',a,b,c⟩:=k; exact ⟨x',a,Gz b,c⟩
  | _=>exact k) (fun _ _ _ k=>k) (h4 x hx)⟩
theorem DH (l:List (Nat×D)) (i:Nat):(Bx l).env i=gQ l i:=rfl
theorem zB (l:List (Nat×D)):(Bx l).defs=[]:=rfl
theorem wrap_i64 {x:Int} (h1: -9223372036854775808≤x) (h2:x≤9223372036854775807):IntKind.i64.wrap x=x:=by
 simp [IntKind.wrap,IntKind.bits,IntKind.signed]
 split<;>omega
theorem Rp {x:Nat} (h2:x≤9223372036854775807):IntKind.i64.wrap (x:Int)=x:=wrap_i64 (by omega) (by omega)
theorem de {i:Nat} (h:i<9223372036854775807):IntKind.i64.wrap ((i:Int)+1)=((i+1:Nat):Int):=by rw [wrap_i64 (by omega) (by omega)]; omega
theorem wrap_add {i j:Nat} (h:i+j≤9223372036854775807):IntKind.i64.wrap ((i:Int)+(j:Int))=((i+j:Nat):Int):=by rw [wrap_i64 (by omega) (by omega)]; omega
def bm.zero:bm:=⟨fun _ _=>.none,fun _=>.none,fun _ _ _ _ _=>False,fun _ _ _ _ _ _ _ _ _ h=>h,fun _ _ _ _=>False,fun _ _ _ _ _ _ h=>h,fun _ _ _ _ _ _=>False,fun _ _ _ _ _ _ _ _ _ _ h=>h⟩
theorem bm.eH [aN] (P:Program):bm.zero.ok P:=⟨fun _ _ _ h=>(by cases h),fun _ _ _ h=>(by cases h),fun _ _ _ _ _ h=>h.elim,fun _ _ _ _ h=>h,fun _ _ _ _ _ _ _ _ _ _ h=>h.elim⟩
def bm.dh (T:bm) (f:FuncId) (q:List D→Option D):bm:={ T with q:=fun g args=>if g=f then q args else T.q g args }
theorem bm.bq [aN] {P:Program} {T:bm} (hT:T.ok P) {f:FuncId} {q:List D→Option D} (hq:∀args d,q args=some d→aO P f args d):(T.dh f q).ok P:=
 ⟨fun g args d h=>by
  simp only [bm.dh] at h
  split at h
  ·ab e; subst e; exact .inl (hq args d h)
  ·exact hT.q g args d h,hT.a,hT.c,hT.y,hT.r⟩
theorem bm.AN [aN] {P:Program} {T:bm} (hT:T.ok P) {f:FuncId} {q:List D→Option D} (hq:∀args d,q args=some d→vd P f args d):(T.dh f q).ok P:=
 ⟨fun g args d h=>by
  simp only [bm.dh] at h
  split at h
  ·ab e; subst e; exact .inr (hq args d h)
  ·exact hT.q g args d h,hT.a,hT.c,hT.y,hT.r⟩
def bm.FZ (T:bm) (f:FuncId) (c:List D→aa→(D→aa→Prop)→Prop) (m:∀args h (K K':D→aa→Prop),(∀d h,K d h→K' d h)→c args h K→c args h K'):bm:=
 { T with
  c:=fun g args h K E=>if g=f then c args h K else T.c g args h K E
  mono:=fun g args h K E K' E' hk he=>by
   split
   ·exact m args h K K' hk
   ·exact T.mono g args h K E K' E' hk he }
theorem bm.qy [aN] {P:Program} {T:bm} (hT:T.ok P) {f:FuncId} {c:List D→aa→(D→aa→Prop)→Prop} {m:∀args h (K K':D→aa→Prop),(∀d h,K d h→K' d h)→c args h K→c args h K'}
  (hc:∀args h K,c args h K→aQ P f args h fun o h'=>∃d,o=.ret d∧K d h'):(T.FZ f c m).ok P:=
 ⟨hT.q,hT.a,fun g args h K E x=>by
  simp only [bm.FZ] at x
  split at x
  ·ab e
   subst e
   exact (hc args h K x).mono fun o h' ⟨d,e,k⟩=>by subst e; exact k
  ·exact hT.c g args h K E x,hT.y,hT.r⟩
def G3 (rs:List eK) (K:D→aa→Prop) (e:Ex) (σ:Fr) (h:aa):Prop:=
 match e with
 | .exit _=>False
 | _=>σ.defs=[]∧∃ds,eg σ h rs=some ds∧K (xx ds) h
theorem Eh {rs:List eK} {K:D→aa→Prop} {σ:Fr} {h:aa}:G3 rs K .ret σ h=(σ.defs=[]∧∃ds,eg σ h rs=some ds∧K (xx ds) h):=rfl
theorem tP {rs:List eK} {K:D→aa→Prop} {σ:Fr} {h:aa}:G3 rs K .normal σ h=(σ.defs=[]∧∃ds,eg σ h rs=some ds∧K (xx ds) h):=rfl
def bm.VE (T:bm) (f:FuncId) (s:dL) (rs:List eK) (m:Nat):bm:=
 { T with
  c:=fun g args h K E=>if g=f then args.length≤m∧vc T s (G3 rs K) (fun σ d h=>σ.defs=[]∧E d h) (f8 args) h else T.c g args h K E
  mono:=fun g args h K E K' E' hk he=>by
   split
   ·exact fun x=>⟨x.1,iA (fun e σ h k=>by
     cases e with
     | exit i=>exact k
     | _=>obtain ⟨a,ds,b,c⟩:=k; exact ⟨a,ds,b,hk _ _ c⟩) (fun ds d h k=>⟨k.1,he _ _ k.2⟩) x.2⟩
   ·exact T.mono g args h K E K' E' hk he }
theorem bm.RI [aN] {P:Program} {T:bm} (hT:T.ok P) {f:FuncId} {s:dL} {rs:List eK} {m:Nat} {pl:cj} (hs:bJ P f pl=some (s,rs,m)):(T.VE f s rs m).ok P:=
 ⟨hT.q,hT.a,fun g args h K E x=>by
  simp only [bm.VE] at x
  split at x
  ·ab e
   subst e
   refine aQ.my hT hs x.1 (iA (fun e σ h k=>?_) (fun ds d h k=>⟨k.1,h,aa.aU h,k.2⟩) x.2)
   cases e with
   | exit i=>exact k
   | _=>obtain ⟨a,ds,b,c⟩:=k; exact ⟨a,ds,b,.inl ⟨h,aa.aU h,c⟩⟩
  ·exact hT.c g args h K E x,hT.y,hT.r⟩
theorem aQ.aae [aN] {P:Program} {T:bm} (hT:T.ok P) {f:FuncId} {s:dL} {rs:List eK} {m:Nat} {pl:cj} {args:List D} {h:aa} {K:D→aa→Prop} (hs:bJ P f pl=some (s,rs,m)) (hn:args.length≤m)
  (hv:vc T s (G3 rs K) (fun _ _ _=>False) (f8 args) h):aQ P f args h fun o h'=>∃d,o=.ret d∧K d h':=by
 refine aQ.my hT hs hn (iA (fun e σ h k=>?_) (fun ds d h k=>k.elim) hv)
 cases e with
 | exit i=>exact k
 | _=>obtain ⟨a,ds,b,c⟩:=k; exact ⟨a,ds,b,.inl ⟨h,aa.aU h,_,rfl,c⟩⟩
end Go.Proofs.YtpklkpkfgmoghaaGreatDoor.Zz
