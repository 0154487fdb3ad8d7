/- Code as statements; what they ask; contracts of functions. -/
import Derived.Test.YtpklkpkfgmoghaaGreatDoorZS
import Derived.RangeFuncRecord
set_option linter.unnecessarySimpa false
set_option linter.unusedVariables false
set_option linter.unusedSimpArgs false
namespace Go.Proofs.YtpklkpkfgmoghaaGreatDoor.Zz
inductive dU where
 | skip
 | ops (l:List fw)
 | fS (m:Nat) (l:List fw)
 | seq (a b:dU)
 | cond (c:iC) (a b:dU)
 | block (id:Nat) (s:dU)
 | loop (s:dU)
 | exit (id:Nat)
 | ret
 | mark
 | defer (f:iC) (args:List iC)
 | Mm (g:iC) (ps:List Nat) (rQ body:dU)
structure cm where
 cfg:Cfg
 amz:List (Nat×List Nat)
 ag8:List Nat
 rd:Bool
def H7 (l:List fw):Nat:=l.foldl (fun m o=>match o.d with | some a=>min m a | none=>m) 1000000000
def UI [aT] (P:Program) (n:Nat) (pl:cm) (id:Nat) (ops:Array Oper) (draw:Bool):Option (List fw):=
 match draw with
 | false=>(List.range ops.size).mapM (sK P n pl.cfg false id ops)
 | true=>match pl.amz.lookup id with
  | some l=>match l.mapM (sK P n pl.cfg true id ops) with
   | some os=>if P.follows .mixedOrders=true∧zJ .any ops (sK P n pl.cfg true id ops) (H7 os) l (Array.replicate ops.size false)=true∧l.length≤ops.size then some os else none
   | none=>none
  | none=>none
def Na [aT] (o:Oper):Option (iC×List iC):=
 match o.dst,o.guard with
 | none,none=>match o.op with
  | .defer c=>match c.callee with
   | .value f=>match lz f,qR c.args.toList with
    | some f,some as=>some (f,as)
    | _,_=>none
   | _=>none
  | _=>none
 | _,_=>none
def M7 [aT] (P:Program) (n:Nat) (pl:cm) (id:Nat) (ops:Array Oper) (draw:Bool):Option dU:=
 match draw with
 | true=>(UI P n pl id ops true).map fun l=>.fS (H7 l) l
 | false=>match (ops[ops.size - 1]?).bind Na with
  | some fa=>if pl.rd=false then ((List.range (ops.size - 1)).mapM (sK P n pl.cfg false id ops)).map fun l=>.seq (.ops l) (.defer fa.1 fa.2) else none
  | none=>(UI P n pl id ops false).map .ops
def comp [aT] (P:Program) (n:Nat) (pl:cm):Code→Option dU
 | .skip=>some .skip
 | .region id ops draw=>(M7 P n pl id ops draw).map fun s=>if pl.ag8.contains id=true then .seq .mark s else s
 | .seq a b=>match comp P n pl a,comp P n pl b with
  | some a,some b=>some (.seq a b)
  | _,_=>none
 | .cond c a b=>match lz c,comp P n pl a,comp P n pl b with
  | some c,some a,some b=>some (.cond c a b)
  | _,_,_=>none
 | .block id c=>(comp P n pl c).map (.block id)
 | .loop c=>(comp P n pl c).map .loop
 | .exit id=>some (.exit id)
 | .ret=>some .ret
 | .rangeFunc g ps rQ body=>if pl.rd=false∧ps.toList.all (fun t=>decide (t<n))=true then
   match lz g,comp P n { pl with rd:=true } rQ,comp P n { pl with rd:=true } body with
   | some g,some a,some b=>some (.Mm g ps.toList a b)
   | _,_,_=>none
  else none
 | _=>none
def Fr.le (τ σ:Fr):Prop:=(∀i,τ.env i=.undef∨τ.env i=σ.env i)∧τ.defs=σ.defs
def Fr.mark (σ:Fr) (c:iC) (b:Bool):Fr:=
 match c with
 | .t n=>σ.put (some n) (.bool b)
 | _=>σ
def Ed (E:Fr→D→aa→Prop) (m:Nat) (ds:List nJ) (env:Nat→D) (d:D) (h:aa):Prop:=∀σ:Fr,σ.defs=ds→(∀a,a<m→σ.env a=env a)→E σ d h
def Fr.params (σ:Fr) (ps:List Nat) (args:List D):Fr:=(ps.zip args).foldl (fun σ p=>σ.put (some p.1) p.2) { σ with defs:=[] }
def Ws (r:Nat) (K:D→aa→Prop) (e:Ex) (h:aa):Prop:=
 h.f r=some (.lp .busy)∧K (.bool e.code.isNone) (h.set r (.lp (.done e)))
def Mn (r:Nat) (K:Ex→aa→Prop) (h:aa):Prop:=
 match h.f r with
 | some (.lp (.done e))=>K e (h.del r)
 | _=>False
def vc (T:bh):dU→(Ex→Fr→aa→Prop)→(Fr→D→aa→Prop)→Fr→aa→Prop
 | .skip,K,E,σ,h=>K .normal σ h
 | .ops l,K,E,σ,h=>gE T l (K .normal) E σ h
 | .fS m l,K,E,σ,h=>gE T l (K .normal) (fun σ=>Ed E m σ.defs σ.env) σ h
 | .seq a b,K,E,σ,h=>vc T a (fun e σ' h'=>match e with | .normal=>vc T b K E σ' h' | e=>K e σ' h') E σ h
 | .cond c a b,K,E,σ,h=>match σ.ev c with
  | .bool t=>(t=true→vc T a K E (σ.mark c true) h)∧(t=false→vc T b K E (σ.mark c false) h)
  | _=>False
 | .block id s,K,E,σ,h=>vc T s (fun e σ' h'=>match e with | .exit i=>if i=id then K .normal σ' h' else K (.exit i) σ' h' | e=>K e σ' h') E σ h
 | .loop s,K,E,σ,h=>∃(X:Type) (F:X→Fr) (H:X→aa) (μ:X→Nat) (I:X→Prop) (x0:X),I x0∧(F x0).le σ∧(H x0).sub h∧
   ∀x,I x→vc T s (fun e σ' h'=>match e with | .normal=>∃x',I x'∧(F x').le σ'∧(H x').sub h'∧μ x'<μ x | e=>K e σ' h') E (F x) (H x)
 | .exit id,K,E,σ,h=>K (.exit id) σ h
 | .ret,K,E,σ,h=>K .ret σ h
 | .mark,K,E,σ,h=>∃τ h0,Fr.le τ σ∧aa.sub h0 h∧K .normal τ h0
 | .defer f as,K,E,σ,h=>match σ.ev f with
  | .func (.func k) first cap=>K .normal { σ with defs:=⟨.func k,cap,first++as.map σ.ev⟩::σ.defs } h
  | _=>False
 | .Mm g ps rQ body,K,E,σ,h=>match σ.ev g with
  | .func (.func k) first cap=>∀l r rd,h.f r=none→h.f rd=none→r≠rd→
    T.r k l (fun args h K2=>args.length=ps.length∧h.f r=some (.lp (.done .normal))∧
      vc T rQ (fun e σ' h'=>match e with
       | .normal=>h'.f r=some (.lp (.done .normal))∧vc T body (fun e _ na=>Ws r K2 e na) (fun _ _ _=>False) σ' (h'.set r (.lp .busy))
       | _=>False) (fun _ _ _=>False) (σ.params ps args) h)
     (first++[.func (.yield l) [] []]++cap) ((h.set rd .dfr).set r (.lp (.done .normal)))
     (fun _ h'=>Mn r (fun e na=>K e { σ with defs:=⟨.yield rd,[],[]⟩::σ.defs } na) h')
  | _=>False
theorem jz {T:bh} {s:dU}:∀{K K':Ex→Fr→aa→Prop} {E E':Fr→D→aa→Prop} {σ:Fr} {h:aa} (hk:∀e σ h,K e σ h→K' e σ h) (he:∀σ d h,E σ d h→E' σ d h) (hv:vc T s K E σ h),vc T s K' E' σ h:=by
 induction s with
 | skip=>exact fun hk he hv=>hk _ _ _ hv
 | ops l=>exact fun hk he hv=>tI (hk _) he hv
 | fS m l=>exact fun hk he hv=>tI (hk _) (fun _ _ _ k σ' e f=>he _ _ _ (k σ' e f)) hv
 | seq a b iha ihb=>
  intro K K' E E' σ h hk he hv
  exact iha (fun e σ' h' k=>by
   cases e with
   | normal=>exact ihb hk he k
   | _=>exact hk _ _ _ k) he hv
 | cond c a b iha ihb=>
  intro K K' E E' σ h hk he hv
  simp only [vc] at hv ⊢
  split at hv
  ·exact ⟨fun e=>iha hk he (hv.1 e),fun e=>ihb hk he (hv.2 e)⟩
  ·exact hv.elim
 | block id s ih=>
  intro K K' E E' σ h hk he hv
  exact ih (fun e σ' h' k=>by
   cases e with
   | exit i=>
    simp only at k ⊢
    split
    ·rename_i e; rw [if_pos e] at k; exact hk _ _ _ k
    ·rename_i e; rw [if_neg e] at k; exact hk _ _ _ k
   | _=>exact hk _ _ _ k) he hv
 | loop s ih=>
  intro K K' E E' σ h hk he hv
  obtain ⟨X,F,H,μ,I,x0,a1,a2,a3,a4⟩:=hv
  exact ⟨X,F,H,μ,I,x0,a1,a2,a3,fun x hx=>ih (fun e σ' h' k=>by
   cases e with
   | normal=>exact k
   | _=>exact hk _ _ _ k) he (a4 x hx)⟩
 | exit id=>exact fun hk he hv=>hk _ _ _ hv
 | ret=>exact fun hk he hv=>hk _ _ _ hv
 | mark=>exact fun hk he ⟨τ,h0,a,b,c⟩=>⟨τ,h0,a,b,hk _ _ _ c⟩
 | defer f as=>
  intro K K' E E' σ h hk he hv
  simp only [vc] at hv ⊢
  split at hv
  ·exact hk _ _ _ hv
  ·exact hv.elim
 | Mm g ps rQ body iha ihb=>
  intro K K' E E' σ h hk he hv
  simp only [vc] at hv ⊢
  split at hv
  ·refine fun l r rd a b c=>T.aiL _ _ _ _ _ _ _ _ (fun args h K K' hk ⟨x1,x2,x3⟩=>⟨x1,x2,iha (fun e σ' h' k=>by
    cases e with
    | normal=>exact ⟨k.1,ihb (fun e _ na k=>⟨k.1,hk _ _ k.2⟩) (fun _ _ _ k=>k) k.2⟩
    | _=>exact k) (fun _ _ _ k=>k) x3⟩) (fun d h' k=>?_) (hv l r rd a b c)
   unfold Mn at k ⊢
   split at k
   ·exact hk _ _ _ k
   ·exact k.elim
  ·exact hv.elim
variable {P:Program} {T:bh} {κ:cT} {h:aa} {w:World} {σ:Fr} {n:Nat} {a:Act}
theorem lf.le [aT] {τ:Fr} (hp:lf κ w σ n a) (l:τ.le σ):lf κ w τ n a:=
 ⟨hp.size,fun i=>by
  rcases l.1 i with e | e
  ·rw [e]; exact .undef _
  ·rw [e]; exact hp.env i,by rw [l.2]; exact hp.defs,hp.mN⟩
theorem MT {F:Fence} {m:Nat} {c:Code} {Q:Exit→Act→World→Prop} {X:Type} (I:X→Act→World→Prop) (μ:X→Nat) (x0:X) {a:Act} {w:World} (h₀:I x0 a w)
  (round:∀x a w,I x a w→c.wpIn F m P (Exit.then (fun a' w'=>∃x',I x' a' w'∧μ x'<μ x) Q) a w):(Code.loop c).wpIn F m P Q a w:=by
 intro b k cs Fo hb hr
 have key:∀j x a w,μ x=j→I x a w→
   ∃e a' w',Q e a' w'∧ArrivesIn (Machine.fenced P F) P (lone (b.atR a (.code c::.inLoop c::k)) cs w) b k cs e a' w':=by
  intro j
  induction j using Nat.strongRecOn with
  | _ j ih=>
   intro x a w hn hI
   obtain ⟨e,a₁,w₁,hq,HE⟩:=round x a w hI b (.inLoop c::k) cs Fo hb hr
   cases e with
   | normal=>
    obtain ⟨x',ahq,ig⟩:=hq
    obtain ⟨e₂,a₂,w₂,ahN,Zt⟩:=ih (μ x') (hn▸ig) x' a₁ w₁ rfl ahq
    exact ⟨e₂,a₂,w₂,ahN,.of_steps (StepsIn.trans HE (.one (fenced_calm hb hr rfl) stepR_inLoop)) Zt⟩
   | exit id=>exact ⟨_,a₁,w₁,hq,.pass (x:=.inLoop c) rfl (fun _ _=>.inl (by simp)) HE⟩
   | goto l=>exact ⟨_,a₁,w₁,hq,.pass (x:=.inLoop c) rfl (fun _ _=>.inl (by simp)) HE⟩
   | ret=>exact ⟨_,a₁,w₁,hq,.pass (x:=.inLoop c) rfl (fun _ _=>.inl (by simp)) HE⟩
   | panic ch=>exact ⟨_,a₁,w₁,hq,.pass (x:=.inLoop c) rfl (fun _ _=>.inl (by simp)) HE⟩
   | outgrown=>exact ⟨_,a₁,w₁,hq,.pass (x:=.inLoop c) rfl (fun _ _=>.inl (by simp)) HE⟩
 obtain ⟨e,a',w',hq,HE⟩:=key _ x0 a w rfl h₀
 exact ⟨e,a',w',hq,.of_steps (.one (fenced_calm hb hr rfl) stepR_loop) HE⟩
theorem Inv.putObj [aT] (hi:Inv κ h w) {id:Nat} {o o':cJ} {p:Place} {ob:Obj} (ho:h.f id=some o) (hp:κ.loc id=some p) (hl:o.live=true) (pf:o'.live=true) (hr:iN κ (w.putObj p.blk ob) p o') (hn':∀b,Own o' p b→p.blk=b:=by intro b h; exact h.Dy (by simp)):
  Inv κ (h.set id o') (w.putObj p.blk ob)∧Ev κ h w κ (h.set id o') (w.putObj p.blk ob):=by
 have:=Inv.change (p':=p) (o':=o') hi ho hp hl pf (w':=w.putObj p.blk ob) (by simp) (by simpa using hi.jV id p hp) (.inl rfl) (Nat.le_refl _) (fun _=>rfl) (fun _=>rfl) rfl rfl rfl
  (fun b _ hb=>World.putObj_heap_other hb) (by rw [cT.ux hp]; exact hr) (.inl rfl) hn'
 rwa [cT.ux hp] at this
theorem Inv.H8 [aT] (hi:Inv κ h w) {r:Nat} {st:TN} {p:Place} {R:Loop} (ho:h.f r=some (.lp st)) (hp:κ.loc r=some p) (hR:p.rc=some R):p.aY=1∧¬κ.jv p.blk∧w.heap[p.blk]? =some (.loop (st.on R)):=by
 obtain ⟨p',h1,h2,h3,R',h4,h5⟩:=hi.obj r _ ho
 rw [hp] at h1
 cases h1
 rw [hR] at h4
 cases h4
 exact ⟨h2,h3,h5⟩
theorem Inv.VO [aT] (hi:Inv κ h w) {r:Nat} {st:TN} {p:Place} {R:Loop} (st':TN) (ho:h.f r=some (.lp st)) (hp:κ.loc r=some p) (hR:p.rc=some R):
  Inv κ (h.set r (.lp st')) (w.putObj p.blk (.loop (st'.on R)))∧Ev κ h w κ (h.set r (.lp st')) (w.putObj p.blk (.loop (st'.on R))):=by
 obtain ⟨h1,h2,h3⟩:=hi.H8 ho hp hR
 exact hi.putObj ho hp rfl rfl ⟨h1,h2,R,hR,World.putObj_heap_same (hi.jV r p hp)⟩
theorem lf.params [aT] (hp:lf κ w σ n a) {ps:List Nat} (B9:∀t∈ps,t<n) {vs:List Value} {args:List D} (r:cn κ w vs args):
  lf κ w (σ.params ps args) n { tmps:=(ps.zip vs).foldl (fun tmps p=>tmps.setIfInBounds p.1 p.2) a.tmps,defers:=[] }:=by
 have key:∀(ps:List Nat) (vs:List Value) (args:List D) (σ:Fr) (a:Act),(∀t∈ps,t<n)→cn κ w vs args→lf κ w σ n a→
   lf κ w ((ps.zip args).foldl (fun σ p=>σ.put (some p.1) p.2) σ) n { tmps:=(ps.zip vs).foldl (fun tmps p=>tmps.setIfInBounds p.1 p.2) a.tmps,defers:=a.defers }:=by
  intro ps
  induction ps with
  | nil=>intro vs args σ a _ _ h; simpa using h
  | cons t ps ih=>
   intro vs args σ a ht r h
   cases r with
   | nil=>simpa using h
   | cons r1 rs=>
    simp only [List.zip_cons_cons,List.foldl_cons]
    exact ih _ _ _ { a with tmps:=a.tmps.setIfInBounds t _ } (fun x hx=>ht x (by simp [hx])) rs (h.put (some t) (fun x hx=>by cases hx; exact ht t (by simp)) r1)
 have:=key ps vs args { σ with defs:=[] } { a with defers:=[] } B9 r ⟨hp.size,hp.env,.nil,hp.mN⟩
 exact this
theorem YA (ps:Array Tmp) (vs:Array Value) (tmps:Array Value):((ps.zip vs).foldl (fun tmps (t,a)=>tmps.setIfInBounds t a) tmps)=((ps.toList.zip vs.toList).foldl (fun tmps p=>tmps.setIfInBounds p.1 p.2) tmps):=by
 rw [←Array.foldl_toList,Array.toList_zip]
theorem uY [aT]:∀(c:Code) (s:dU) (pl:cm) (hc:comp P n pl c=some s) (ro:Option Nat) (Fo:pl.rd=false→ro=none) (κ0:cT) (h0:aa) (w0:World) (hT:T.qe P κ0 w0) (u_:Inv κ0 h0 w0) (K:Ex→Fr→aa→Prop) (E:Fr→D→aa→Prop) (κ:cT) (h:aa) (w:World) (σ:Fr) (a:Act),
  Inv κ h w→lf κ w σ n a→Ev κ0 h0 w0 κ h w→vc T s K E σ h→c.wpIn (FW ro) 0 P (QK κ0 h0 w0 n K E) a w:=by
 intro c
 induction c with
 | skip=>intro s pl hc ro Fo κ0 h0 w0 hT u_ K E κ h w σ a hi hp ev hv; cases hc; exact wpIn_skip ⟨κ,h,σ,hv,hi,hp,ev⟩
 | region id ops draw=>
  intro s pl hc ro Fo κ0 h0 w0 hT u_ K E κ h w σ a hi hp ev hv
  simp only [comp,Option.map_eq_some_iff] at hc
  obtain ⟨s1,rX,rfl⟩:=hc
  obtain ⟨τ,hh,t1,t2,hv⟩:∃τ hh,Fr.le τ σ∧aa.sub hh h∧vc T s1 K E τ hh:=by
   by_cases Zu:pl.ag8.contains id=true
   ·rw [if_pos Zu] at hv
    obtain ⟨τ,hh,a1,a2,a3⟩:=hv
    exact ⟨τ,hh,a1,a2,a3⟩
   ·rw [if_neg Zu] at hv
    exact ⟨σ,h,⟨fun i=>.inr rfl,rfl⟩,aa.aj h,hv⟩
  replace hp:=hp.le t1
  replace hi:=hi.sub t2
  replace ev:=ev.sub t2
  clear t1 t2
  unfold M7 at rX
  cases draw with
  | false=>
   simp only at rX
   split at rX
   ·rename_i fa hfa
    split at rX
    ·rename_i hrd
     simp only [Option.map_eq_some_iff] at rX
     obtain ⟨l,hl,rfl⟩:=rX
     have aeg:=Fo hrd
     subst aeg
     simp only [Option.bind_eq_some_iff] at hfa
     obtain ⟨o,ho,hd⟩:=hfa
     have qd:0<ops.size:=by
      have:=(Array.getElem?_eq_some_iff.1 ho).1
      omega
     refine wpIn_region ?_
     have er:List.range ops.size=List.range (ops.size - 1)++[ops.size - 1]:=by
      conv=>lhs; rw [show ops.size=ops.size - 1+1 by omega]
      rw [List.range_succ]
     rw [er]
     refine vS hT u_ (Kn:=fun σ' h'=>vc T (.defer fa.1 fa.2) K E σ' h') (fun κ' h' w' σ' a' k i' p' e'=>?_) _ _ hl κ hh w τ a hi hp ev hv
     unfold Na at hd
     split at hd
     case h_2=>cases hd
     rename_i Vm aly
     split at hd
     case h_2=>cases hd
     rename_i cc gU
     split at hd
     case h_2=>cases hd
     rename_i fo lP
     split at hd
     case h_2=>cases hd
     rename_i f' as' e1 e2
     cases hd
     simp only [vc] at k
     have rf:=bG p' e1
     have ra:=mq p' e2
     generalize σ'.ev f'=df at rf k
     split at k
     case h_2=>exact k.elim
     rename_i kf first cap
     generalize hfv:a'.eval fo=fv at rf
     cases rf with
     | func s1 s2 r1 r2=>
     rename_i v1 v2
     rw [wpOpsIn_cons]
     unfold wpOpIn
     simp only [ho]
     rw [if_pos (by simp [Region.wanted,aly])]
     unfold Oper.wpIn
     refine ⟨fun _ _=>trivial,?_⟩
     have gm:(Oper.semAt (FW none).round a'.eval o).run P w'=.ok (.defer { target:=.fn (.func kf) v2,args:=v1++cc.args.map a'.eval }) w':=by
      show (execOp a'.eval o).run P w'=_
      simp only [execOp,gU,resolve,lP,hfv,Deferred.ofValue,Sem.run_bind,Sem.run_pure,Result.andThen]
     rw [gm]
     simp only [Oper.uponIn,Vm,Act.put]
     refine ⟨κ',h',_,k,i',⟨p'.size,p'.env,.cons (.mk (cn.jC s2 r2) ?_) p'.defs,p'.mN⟩,e'⟩
     simp only [Array.toList_append,Array.toList_map]
     exact (cn.jC s1 r1).append ra
    ·cases rX
   ·simp only [Option.map_eq_some_iff] at rX
    obtain ⟨l,hl,rfl⟩:=rX
    refine wpIn_region ?_
    have:=vS (ro:=ro) hT u_ (K:=K) (E:=E) (Kn:=K .normal) (l2:=[]) (fun κ' h' w' σ' a' k i' p' e'=>⟨κ',h',σ',k,i',p',e'⟩) _ _ hl κ hh w τ a hi hp ev hv
    rwa [List.append_nil] at this
  | true=>
   simp only [Option.map_eq_some_iff] at rX
   obtain ⟨l,hl,rfl⟩:=rX
   unfold UI at hl
   simp only at hl
   split at hl
   ·rename_i ord aqB
    split at hl
    ·rename_i os hos
     split at hl
     ·rename_i mg
      cases hl
      obtain ⟨c1,c2,c3⟩:=mg
      refine wpIn_region_draw fun t=>?_
      have e1:Ev κ hh w κ hh { w with drawn:=w.drawn+1 }:=Ev.of_heap rfl rfl rfl rfl
      have hi1:Inv κ hh { w with drawn:=w.drawn+1 }:=hi.of_heap rfl
      have hp1:=hp.mono (e1.le hi)
      simp only [Region.schedule,c1,Bool.true_or,if_true]
      refine RL hT u_ (m:=H7 l) (Ed:=fun f d h=>∀σ:Fr,σ.low (H7 l)=f→E σ d h) (fun σ d h k=>k σ rfl) (cfg:=pl.cfg) (dr:=true) (r:=id) ops.size t _ κ hh _ τ a hi1 hp1 (ev.trans e1) ?_
      refine tY ord ops.size l _ (List.range ops.size) τ hh c2 hos (by simp) (fun j hj _=>by simpa using hj) Down.none c3 (tI (fun _ _ k=>k) (fun σ d h k σ' e=>?_) hv)
      have e1:(σ'.low (H7 l)).defs=(σ.low (H7 l)).defs:=by rw [e]
      refine k σ' e1 fun a ha=>?_
      have e2:(σ'.low (H7 l)).env a=(σ.low (H7 l)).env a:=by rw [e]
      simpa [Fr.low,ha] using e2
     ·cases hl
    ·cases hl
   ·cases hl
 | seq x y ihx ihy=>
  intro s pl hc ro Fo κ0 h0 w0 hT u_ K E κ h w σ a hi hp ev hv
  simp only [comp] at hc
  split at hc
  ·rename_i sx sy h1 h2
   cases hc
   refine wpIn_seq (wpIn_mono (ihx sx pl h1 ro Fo κ0 h0 w0 hT u_ _ E κ h w σ a hi hp ev hv) fun e a' w' q=>?_)
   cases e with
   | normal=>obtain ⟨κ',h',σ',k,i',p',e'⟩:=q; exact ihy sy pl h2 ro Fo κ0 h0 w0 hT u_ K E κ' h' w' σ' a' i' p' e' k
   | _=>exact q
  ·cases hc
 | cond c x y ihx ihy=>
  intro s pl hc ro Fo κ0 h0 w0 hT u_ K E κ h w σ a hi hp ev hv
  simp only [comp] at hc
  split at hc
  ·rename_i oc sx sy h00 h1 h2
   cases hc
   have rc:=bG hp h00
   simp only [vc] at hv
   split at hv
   ·rename_i t ht
    have mark:σ.mark oc t=σ:=by
     cases oc with
     | t j=>exact Fr.mw ht
     | _=>rfl
    rw [ht] at rc
    generalize ZG:a.eval c=v at rc
    cases rc
    refine wpIn_cond ZG ?_
    cases t with
    | true=>exact ihx sx pl h1 ro Fo κ0 h0 w0 hT u_ K E κ h w _ a hi hp ev (mark▸hv.1 rfl)
    | false=>exact ihy sy pl h2 ro Fo κ0 h0 w0 hT u_ K E κ h w _ a hi hp ev (mark▸hv.2 rfl)
   ·exact hv.elim
  ·cases hc
 | block id x ih=>
  intro s pl hc ro Fo κ0 h0 w0 hT u_ K E κ h w σ a hi hp ev hv
  simp only [comp,Option.map_eq_some_iff] at hc
  obtain ⟨sx,h1,rfl⟩:=hc
  refine wpIn_block (wpIn_mono (ih sx pl h1 ro Fo κ0 h0 w0 hT u_ _ E κ h w σ a hi hp ev hv) fun e a' w' q=>?_)
  cases e with
  | exit i=>
   obtain ⟨κ',h',σ',k,r⟩:=q
   simp only at k
   simp only [Exit.inBlock]
   by_cases e:i=id
   ·rw [if_pos e] at k ⊢; exact ⟨κ',h',σ',k,r⟩
   ·rw [if_neg e] at k ⊢; exact ⟨κ',h',σ',k,r⟩
  | _=>exact q
 | loop x ih=>
  intro s pl hc ro Fo κ0 h0 w0 hT u_ K E κ h w σ a hi hp ev hv
  simp only [comp,Option.map_eq_some_iff] at hc
  obtain ⟨sx,h1,rfl⟩:=hc
  obtain ⟨X,F,H,μ,I,x0,a1,a2,a3,a4⟩:=hv
  refine MT (X:=X) (fun x a w=>I x∧∃κ,Inv κ (H x) w∧lf κ w (F x) n a∧Ev κ0 h0 w0 κ (H x) w) μ x0 ⟨a1,κ,hi.sub a3,hp.le a2,ev.sub a3⟩ ?_
  rintro x a w ⟨hx,κ,hi,hp,ev⟩
  refine wpIn_mono (ih sx pl h1 ro Fo κ0 h0 w0 hT u_ _ E κ (H x) w (F x) a hi hp ev (a4 x hx)) fun e a' w' q=>?_
  cases e with
  | normal=>
   obtain ⟨κ',h',σ',⟨x',k1,k2,k3,k4⟩,i',p',e'⟩:=q
   exact ⟨x',⟨k1,κ',i'.sub k3,p'.le k2,e'.sub k3⟩,k4⟩
  | _=>exact q
 | rangeFunc g ps rQ body iha ihb=>
  intro s pl hc ro Fo κ0 h0 w0 hT u_ K E κ h w σ a hi hp ev hv
  simp only [comp] at hc
  split at hc
  case isFalse=>cases hc
  rename_i mg
  obtain ⟨hrd,B9⟩:=mg
  have aeg:=Fo hrd
  subst aeg
  split at hc
  case h_2=>cases hc
  rename_i og sa sb e1 e2 e3
  cases hc
  have rg:=bG hp e1
  simp only [vc] at hv
  generalize σ.ev og=dg at rg hv
  split at hv
  case h_2=>exact hv.elim
  rename_i k first cap
  generalize hgv:a.eval g=gv at rg
  cases rg with
  | func s1 s2 r1 r2=>
  rename_i v1 v2
  refine wpIn_rangeFunc fun fn _=>?_
  let R0:Loop:={ state:=.ready,pending:=none,fn:=fn,tmps:=a.tmps,params:=ps,assign:=rQ,body:=body,defers:=w.heap.size }
  obtain ⟨rd,alU,ahP⟩:=hi.vO
  let p1:Place:={ blk:=w.heap.size,base:=0,aY:=1,cap:=0,sz:=0,rc:=none }
  obtain ⟨i1,Fe⟩:=hi.alloc alU ahP (.deferred (some [])) .dfr p1 rfl rfl rfl ⟨rfl,fun hx=>by have:=hi.gM _ hx; simp [p1] at this,dZ w _⟩
  obtain ⟨r,hr1,hr2⟩:=i1.vO
  have aef:r≠rd:=fun e=>by subst e; simp [cT.put] at hr1
  let w1:=w.alloc (.deferred (some []))
  have alZ:w1.heap.size=w.heap.size+1:=by simp [w1]
  let p2:Place:={ blk:=w1.heap.size,base:=0,aY:=1,cap:=0,sz:=0,rc:=some R0 }
  obtain ⟨i2,ev2⟩:=i1.alloc hr1 hr2 (.loop R0) (.lp (.done .normal)) p2 rfl rfl rfl ⟨rfl,fun hx=>by have:=i1.gM _ hx; simp [p2,w1] at this,R0,rfl,dZ w1 _⟩
  have hrf:h.f r=none:=by
   simp only [aa.b9,if_neg aef] at hr2; exact hr2
  replace hv:=hv w1.heap.size r rd hrf ahP aef
  have Zl:=Fe.trans ev2
  have ah0:Le κ0 w0 _ _:=(ev.trans Zl).le u_
  have le2:Le κ w _ _:=Zl.le hi
  have ah5:((κ.put rd p1).put r p2).loc r=some p2:=by simp [cT.put]
  have amn:((κ.put rd p1).put r p2).loc rd=some p1:=by simp [cT.put,Ne.symm aef]
  have pV:=hT.r _ _ _ _ _ _ _ _ ah0 (fun args h K K' hk ⟨x1,x2,x3⟩=>⟨x1,x2,jz (fun e σ' h' k=>by
   cases e with
   | normal=>exact ⟨k.1,jz (fun e _ na k=>⟨k.1,hk _ _ k.2⟩) (fun _ _ _ k=>k) k.2⟩
   | _=>exact k) (fun _ _ _ k=>k) x3⟩) ?_ hv
  ·obtain ⟨Vj,pV⟩:=pV
   refine ⟨w1.heap.size,[{ target:=.collected w.heap.size,args:= #[] }],w1.alloc (.loop R0),{ target:=.fn (.func k) v2,args:=v1++ #[.func (.yield w1.heap.size) #[] #[]] },w1.alloc (.loop R0),k,v1++ #[.func (.yield w1.heap.size) #[] #[]]++v2,w1.alloc (.loop R0),?_,?_,fun _ _=>trivial,?_,yB,?_⟩
   ·have:=run_enterLoop_outer (P:=P) (w:=w) fn a.tmps ps rQ body
    rw [←alZ] at this
    exact this
   ·have ec:Array.map a.eval #[Operand.const (.func (.yield w1.heap.size) #[] #[])]= #[.func (.yield w1.heap.size) #[] #[]]:=by simp; rfl
    simp only [resolve,rangeCall,hgv,Deferred.ofValue,Sem.run_pure,ec]
   ·simp only [invoke,iY Vj]
   ·refine Gj ((pV _ i2 ?_).mono fun e w3 ⟨o,h',κ',q1,q2,q3,q4⟩=>?_)
    ·simp only [Array.toList_append]
     refine cn.append (cn.append (cn.jC s1 fun i d hd=>(r1 i d hd).mono le2) ?_) (cn.jC s2 fun i d hd=>(r2 i d hd).mono le2)
     exact .cons (.func rfl rfl (fun i d hd=>by simp at hd) (fun i d hd=>by simp at hd)) .nil
    ·cases q2 with
     | panic r=>exact q1.elim
     | ret rr=>
      simp only [cY.to] at q1
      unfold Mn at q1
      split at q1
      case h_2=>exact q1.elim
      rename_i e he
      have le3:=q4.le i2
      obtain ⟨p',l1,l2,l3,l4⟩:=le3.loc r p2 ah5
      have:=l4.one rfl
      subst this
      obtain ⟨pd,d1,d2,d3,d4⟩:=le3.loc rd p1 amn
      have:=d4.one rfl
      subst this
      obtain ⟨b1,b2,b3⟩:=q3.H8 he l1 rfl
      obtain ⟨i4,ev4⟩:=q3.putObj (o':=.other) (ob:=.loop { (TN.done e).on R0 with state:=.exhausted }) he l1 rfl rfl ⟨b1,b2⟩
      have WN:(h'.del r).sub (h'.set r .other):=fun i o ho=>by
       simp only [aa.abr,aa.b9] at ho ⊢
       split at ho
       ·cases ho
       ·rename_i iy; rw [if_neg iy]; exact ho
      have Vq:lf κ' (w3.putObj p2.blk (.loop { (TN.done e).on R0 with state:=.exhausted })) { σ with defs:=⟨.yield rd,[],[]⟩::σ.defs } n { a with defers:=[{ target:=.collected w.heap.size,args:= #[] }]++a.defers }:=by
       have:=hp.mono ((Zl.trans (q4.trans ev4)).le hi)
       exact ⟨this.size,this.env,.cons (.col d1 rfl rfl) this.defs,this.mN⟩
      have als:=run_endLoop (P:=P) (w:=w3) (l:=p2.blk) b3 (by
       simp only [TN.on]
       split<;>simp)
      refine ⟨_,_,als,?_⟩
      have hev:=(ev.trans (Zl.trans (q4.trans ev4))).sub WN
      have hin:=i4.sub WN
      cases e with
      | normal=>exact ⟨κ',_,_,q1,hin,Vq,hev⟩
      | ret=>exact wpIn_ret ⟨κ',_,_,q1,hin,Vq,hev⟩
      | exit id=>exact wpIn_exit ⟨κ',_,_,q1,hin,Vq,hev⟩
  ·rintro args h3 K2 ⟨x1,x2,x3⟩ κ3 w3 le3 vs hi3 hr3
   obtain ⟨p',l1,l2,l3,l4⟩:=le3.loc r p2 ah5
   have:=l4.one rfl
   subst this
   obtain ⟨b1,b2,b3⟩:=hi3.H8 x2 l1 rfl
   have hlen:vs.size=ps.size:=by
    have:=hr3.length
    simp at this x1
    omega
   refine ⟨_,_,_,_,run_yield b3 hlen,?_⟩
   have amj:=(ah0.trans le3)
   have hp3:lf κ3 w3 σ n a:=hp.mono (le2.trans le3)
   have hpp:=hp3.params (ps:=ps.toList) (fun t ht=>by simpa using List.all_eq_true.1 B9 t ht) hr3
   have hT3:=hT.mono amj
   have key:=iha sa { pl with rd:=true } e2 (some w1.heap.size) (fun h=>by cases h) κ3 h3 w3 hT3 hi3 _ (fun _ _ _=>False) κ3 h3 w3 _ _ hi3 hpp (Ev.refl _ _ _) x3
   refine roundIn_of_wpIn (F:=FW none) trivial ?_
   have ahv:(((TN.done Ex.normal).on R0).params.zip vs).foldl (fun tmps (t,a)=>tmps.setIfInBounds t a) ((TN.done Ex.normal).on R0).tmps=(ps.toList.zip vs.toList).foldl (fun tmps p=>tmps.setIfInBounds p.1 p.2) a.tmps:=YA ps vs a.tmps
   rw [ahv]
   refine wpIn_mono key fun e a4 w4 q=>?_
   cases e with
   | normal=>
    obtain ⟨κ4,h4,σ4,⟨k1,k2⟩,i4,p4,ev4⟩:=q
    have aml:=ev4.le hi3
    obtain ⟨pp,m1,m2,m3,m4⟩:=aml.loc r p2 l1
    have:=m4.one rfl
    subst this
    obtain ⟨c1,c2,c3⟩:=i4.H8 k1 m1 rfl
    obtain ⟨i5,ev5⟩:=i4.VO .busy k1 m1 rfl
    refine ⟨_,run_beginRound c3 rfl,?_⟩
    have ami:=ihb sb { pl with rd:=true } e3 (some w1.heap.size) (fun h=>by cases h) κ3 h3 w3 hT3 hi3 _ (fun _ _ _=>False) κ4 _ _ σ4 a4 i5 (p4.mono (ev5.le i4)) (ev4.trans ev5) k2
    refine wpIn_mono ami fun e a6 w6 q=>?_
    have fin:∀(e:Ex) (κ6:cT) (h6:aa),Ws r K2 e h6→Inv κ6 h6 w6→Ev κ3 h3 w3 κ6 h6 w6→
      ∃v w',(Instr.endRound p2.blk e.code).run P w6=.ok v w'∧∃o h' κ',cY.to K2 (fun _ _=>False) o h'∧lh κ' w' o (.returned v)∧Inv κ' h' w'∧Ev κ3 h3 w3 κ' h' w':=fun e κ6 h6 ⟨g1,g2⟩ i6 ev6=>by
     have amm:=ev6.le hi3
     obtain ⟨pq,n1,n2,n3,n4⟩:=amm.loc r p2 l1
     have:=n4.one rfl
     subst this
     obtain ⟨t1,t2,t3⟩:=i6.H8 g1 n1 rfl
     obtain ⟨i7,ev7⟩:=i6.VO (.done e) g1 n1 rfl
     exact ⟨_,_,run_endRound e.code t3,.ret (.bool e.code.isNone),_,κ6,g2,.ret (.bool _),i7,ev6.trans ev7⟩
    cases e with
    | normal=>obtain ⟨κ6,h6,σ6,k6,i6,_,ev6⟩:=q; exact fin .normal κ6 h6 k6 i6 ev6
    | ret=>obtain ⟨κ6,h6,σ6,k6,i6,_,ev6⟩:=q; exact fin .ret κ6 h6 k6 i6 ev6
    | exit id=>obtain ⟨κ6,h6,σ6,k6,i6,_,ev6⟩:=q; exact fin (.exit id) κ6 h6 k6 i6 ev6
    | panic ch=>obtain ⟨_,_,_,_,_,_,k,_⟩:=q; exact k.elim
    | goto t=>exact q.elim
    | outgrown=>exact q.elim
   | ret=>obtain ⟨_,_,_,k,_⟩:=q; exact k.elim
   | exit id=>obtain ⟨_,_,_,k,_⟩:=q; exact k.elim
   | panic ch=>obtain ⟨_,_,_,_,_,_,k,_⟩:=q; exact k.elim
   | goto t=>exact q.elim
   | outgrown=>exact q.elim
 | exit id=>intro s pl hc ro Fo κ0 h0 w0 hT u_ K E κ h w σ a hi hp ev hv; cases hc; exact wpIn_exit ⟨κ,h,σ,hv,hi,hp,ev⟩
 | ret=>intro s pl hc ro Fo κ0 h0 w0 hT u_ K E κ h w σ a hi hp ev hv; cases hc; exact wpIn_ret ⟨κ,h,σ,hv,hi,hp,ev⟩
 | _=>intro s pl hc; simp [comp] at hc
inductive fO where
 | tmp (t:Nat)
 | cell (a:Nat) (k:Option Nat)
def tz (P:Program):List ResultVar→Option (List fO)
 | []=>some []
 | .tmp t::l=>(tz P l).map (.tmp t::·)
 | .cell a t::l=>match shapeOf P t,tz P l with
  | some k,some r=>some (.cell a k::r)
  | _,_=>none
def eI (σ:Fr) (h:aa):List fO→Option (List D)
 | []=>some []
 | .tmp t::l=>(eI σ h l).map (σ.env t::·)
 | .cell a k::l=>match fj h k (σ.env a),eI σ h l with
  | some d,some ds=>some (d::ds)
  | _,_=>none
def BF:List D→D
 | [d]=>d
 | ds=>.tuple ds
def EN (k:Nat):List D→Nat→D
 | [],_=>.undef
 | d::ds,i=>if i=k then d else EN (k+1) ds i
def ij (args:List D):Fr:={ env:=EN 0 args,defs:=[] }
theorem Gs:∀(args:List D) (k i:Nat),EN k args i=if k≤i then args.getD (i - k) .undef else .undef
 | [],k,i=>by simp [EN]
 | d::ds,k,i=>by
  simp only [EN]
  rw [Gs ds (k+1) i]
  by_cases e:i=k
  ·subst e; simp
  ·rw [if_neg e]
   by_cases e1:k≤i
   ·rw [if_pos e1,if_pos (by omega)]
    have:i - k=(i - (k+1))+1:=by omega
    rw [this]
    simp
   ·rw [if_neg e1,if_neg (by omega)]
def vW (rs:List fO) (R:cY→aa→Prop) (e:Ex) (σ:Fr) (h:aa):Prop:=
 match e with
 | .exit _=>False
 | _=>σ.defs=[]∧∃ds,eI σ h rs=some ds∧
   ((∃h',h'.sub h∧R (.ret (BF ds)) h')∨(∃h',h'.sub (fQ h ds)∧R (.ret (BF (ds.map (plain h)))) h'))
def V3 (R:cY→aa→Prop) (σ:Fr) (d:D) (h:aa):Prop:=σ.defs=[]∧∃h',h'.sub h∧R (.panic d) h'
def Wr (tmps:Array Value) (x:ResultVar):Sem Value:=
 match x with
 | .tmp t=>pure (tmps.getD t undef)
 | .cell a t=>do loadVar t (←asAddr (tmps.getD a undef))
theorem Mp (fn:Func) (tmps:Array Value):results fn tmps=(do let vs ←fn.results.mapM (Wr tmps); pure (if h:vs.size=1 then vs[0] else .tuple vs)):=rfl
theorem qD [aT] (hi:Inv κ h w) (hp:lf κ w σ n a):∀(l:List ResultVar) (rs:List fO) (ds:List D),tz P l=some rs→eI σ h rs=some ds→
  ∃vs:List Value,(l.mapM (Wr a.tmps)).run P w=.ok vs w∧cn κ w vs ds
 | [],rs,ds,h1,h2=>by
  simp [tz] at h1
  subst h1
  simp [eI] at h2
  subst h2
  exact ⟨[],by simp,.nil⟩
 | .tmp t::l,rs,ds,h1,h2=>by
  simp only [tz,Option.map_eq_some_iff] at h1
  obtain ⟨rs',h3,rfl⟩:=h1
  simp only [eI,Option.map_eq_some_iff] at h2
  obtain ⟨Ly,h4,rfl⟩:=h2
  obtain ⟨vs,e,r⟩:=qD hi hp l rs' Ly h3 h4
  exact ⟨a.tmps.getD t undef::vs,by simp only [List.mapM_cons,Wr,Sem.run_bind,Sem.run_pure,Result.andThen,e],.cons (hp.env t) r⟩
 | .cell x t::l,rs,ds,h1,h2=>by
  simp only [tz] at h1
  split at h1
  ·rename_i k rs' h3 h4
   cases h1
   simp only [eI] at h2
   split at h2
   ·rename_i d Ly h5 h6
    cases h2
    obtain ⟨vs,e,r⟩:=qD hi hp l rs' Ly h4 h6
    obtain ⟨v,g1,g2⟩:=wO (P:=P) hi h3 (hp.env x) h5
    refine ⟨v::vs,?_,.cons g2 r⟩
    have g1':(Wr a.tmps (.cell x t)).run P w=.ok v w:=by
     simp only [Wr]
     generalize a.tmps.getD x undef=u at g1 ⊢
     unfold Instr.loadAt at g1
     cases u<;>first | (simp [Instr.sureAddr,Result.andThen] at g1; done) | skip
     rename_i o
     cases o with
     | none=>simp [Instr.sureAddr,Result.andThen] at g1
     | some ad=>simpa [Instr.sureAddr,asAddr] using g1
    simp only [List.mapM_cons,Sem.run_bind,g1',Sem.run_pure,Result.andThen,e]
   ·cases h2
  ·cases h1
theorem y7 {vs:List Value} {ds:List D} (r:cn κ w vs ds):cL κ w (if h:vs.toArray.size=1 then vs.toArray[0] else .tuple vs.toArray) (BF ds):=by
 cases r with
 | nil=>exact .tuple rfl fun i d e=>by simp at e
 | cons r t=>
  cases t with
  | nil=>exact r
  | cons r2 t=>
   rw [dif_neg (by simp)]
   exact (cn.cons r (.cons r2 t)).tuple
theorem oV [aT] {fn:Func} {rs:List fO} {ds:List D} (hi:Inv κ h w) (hp:lf κ w σ n a) (hr:tz P fn.results.toList=some rs) (he:eI σ h rs=some ds):
  ∃vs:List Value,(results fn a.tmps).run P w=.ok (if h:vs.toArray.size=1 then vs.toArray[0] else .tuple vs.toArray) w∧cn κ w vs ds:=by
 obtain ⟨vs,e,r⟩:=qD hi hp _ _ _ hr he
 refine ⟨vs,?_,r⟩
 rw [Mp,Array.mapM_eq_mapM_toList]
 simp only [Sem.run_bind,map_eq_pure_bind,e,Result.andThen,Sem.run_pure]
theorem tQ [aT] {fn:Func} {args:List D} {vs:Array Value} (hi:Inv κ h w) (sB:cn κ w vs.toList args) (hn:args.length≤fn.ntmps):lf κ w (ij args) fn.ntmps { tmps:=vs++Array.replicate (fn.ntmps - vs.size) undef,defers:=[] }:=by
 have hlen:=sB.length
 have qd:vs.size=args.length:=by simpa using hlen
 refine ⟨by simp; omega,fun i=>?_,.nil,hi.mN⟩
 simp only [ij]
 rw [Gs,if_pos (by omega),Nat.sub_zero]
 by_cases mI:i<args.length
 ·obtain ⟨v,e,r⟩:=sB.get i args[i] (by simp [mI])
  have e':vs[i]? =some v:=by simpa using e
  have e2:(vs++Array.replicate (fn.ntmps - vs.size) undef)[i]? =some v:=by
   rw [Array.getElem?_append_left (by omega)]; exact e'
  rw [Array.getD_eq_getD_getElem?,e2]
  simpa [mI] using r
 ·have:args.getD i .undef=.undef:=by simp [List.getD,mI]
  rw [this]; exact .undef _
theorem abg [aT] (hT:T.qe P κ w) {fn:Func} {c:Code} {s:dU} {pl:cm} {rs:List fO} {args:List D} {vs:Array Value} {R:cY→aa→Prop} (hc:comp P fn.ntmps pl c=some s) (hr:tz P fn.results.toList=some rs)
  (hn:args.length≤fn.ntmps) (hv:vc T s (vW rs R) (V3 R) (ij args) h) (hi:Inv κ h w) (sB:cn κ w vs.toList args):
  c.wp P (bodyPost P fn fun e w'=>∃o h' κ',R o h'∧lh κ' w' o e∧Inv κ' h' w'∧Ev κ h w κ' h' w') { tmps:=vs++Array.replicate (fn.ntmps - vs.size) undef,defers:=[] } w:=by
 have hp:=tQ hi sB hn
 have key:=wpIn_wide.1 (uY c s pl hc none (fun _=>rfl) κ h w hT hi _ _ κ h w _ _ hi hp (Ev.refl κ h w) hv)
 refine wp_mono key fun e a' w' q=>?_
 have ret:∀(x:Ex),x≠.exit 0→(∀i,x≠.exit i)→(∃κ' h' σ',vW rs R x σ' h'∧Inv κ' h' w'∧lf κ' w' σ' fn.ntmps a'∧Ev κ h w κ' h' w')→a'.defers=[]∧∃v,(results fn a'.tmps).run P w'=.ok v w'∧(∃o h' κ',R o h'∧lh κ' w' o (.returned v)∧Inv κ' h' w'∧Ev κ h w κ' h' w'):=fun x _ hx q=>by
  obtain ⟨κ',h',σ',k,i',p',e'⟩:=q
  have k':σ'.defs=[]∧∃ds,eI σ' h' rs=some ds∧((∃na,na.sub h'∧R (.ret (BF ds)) na)∨(∃na,na.sub (fQ h' ds)∧R (.ret (BF (ds.map (plain h')))) na)):=by
   cases x with
   | exit i=>exact absurd rfl (hx i)
   | _=>exact k
  obtain ⟨k1,ds,k2,k3⟩:=k'
  have hd:a'.defers=[]:=by
   have:=p'.defs
   rw [k1] at this
   generalize a'.defers=dd at this
   cases this
   rfl
  obtain ⟨us,g1,g2⟩:=oV (P:=P) i' p' hr k2
  refine ⟨hd,_,g1,?_⟩
  rcases k3 with ⟨na,s1,s2⟩ | ⟨na,s1,s2⟩
  ·exact ⟨_,na,κ',s2,.ret (y7 g2),i'.sub s1,e'.sub s1⟩
  ·obtain ⟨jt,i2,e2,r2⟩:=ky i' g2
   exact ⟨_,na,jt,s2,.ret (y7 r2),i2.sub s1,(e'.trans e2).sub s1⟩
 cases e with
 | normal=>exact ret .normal (by simp) (by simp) q
 | ret=>exact ret .ret (by simp) (by simp) q
 | exit id=>obtain ⟨κ',h',σ',k,_⟩:=q; exact k.elim
 | panic chain=>
  obtain ⟨κ',h',d,v,σ',rfl,⟨k1,na,k2,k3⟩,r,p',i',e'⟩:=q
  have hd:a'.defers=[]:=by
   have:=p'.defs
   rw [k1] at this
   generalize a'.defers=dd at this
   cases this
   rfl
  exact ⟨hd,.panic d,na,κ',k3,.panic r,i'.sub k2,e'.sub k2⟩
 | goto l=>exact q.elim
 | outgrown=>exact q.elim
theorem dw.NY [aT] (hT:T.qe P κ w) {f:FuncId} {fn:Func} {c:Code} {s:dU} {pl:cm} {rs:List fO} {args:List D} {R:cY→aa→Prop} (hf:P.funcs[f]? =some fn) (hb:fn.body=some c) (lP:gK P f=true) (hc:comp P fn.ntmps pl c=some s) (hr:tz P fn.results.toList=some rs)
  (hn:args.length≤fn.ntmps) (hv:vc T s (vW rs R) (V3 R) (ij args) h):dw P κ w f args h R:=
 ⟨lP,fun vs hi sB=>calls_of_wp hf hb (abg hT hc hr hn hv hi sB)⟩
theorem aH.NY [aT] (hT:T.ok P) {f:FuncId} {fn:Func} {c:Code} {s:dU} {pl:cm} {rs:List fO} {args:List D} {R:cY→aa→Prop} (hf:P.funcs[f]? =some fn) (hb:fn.body=some c) (lP:gK P f=true) (hc:comp P fn.ntmps pl c=some s) (hr:tz P fn.results.toList=some rs)
  (hn:args.length≤fn.ntmps) (hv:vc T s (vW rs R) (V3 R) (ij args) h):aH P f args h R:=
 ⟨lP,fun κ w=>(dw.NY (hT.toY κ w) hf hb lP hc hr hn hv).2⟩
def bA [aT] (P:Program) (f:FuncId) (pl:cm):Option (dU×List fO×Nat):=
 match P.funcs[f]? with
 | none=>none
 | some fn=>match fn.body with
  | none=>none
  | some c=>match gK P f,comp P fn.ntmps pl c,tz P fn.results.toList with
   | true,some s,some rs=>some (s,rs,fn.ntmps)
   | _,_,_=>none
theorem dw.nR [aT] (hT:T.qe P κ w) {f:FuncId} {s:dU} {rs:List fO} {m:Nat} {pl:cm} {args:List D} {R:cY→aa→Prop} (hs:bA P f pl=some (s,rs,m)) (hn:args.length≤m) (hv:vc T s (vW rs R) (V3 R) (ij args) h):dw P κ w f args h R:=by
 unfold bA at hs
 split at hs
 ·cases hs
 ·rename_i fn hf
  split at hs
  ·cases hs
  ·rename_i c hb
   split at hs
   ·rename_i s' rs' h1 h2 h3
    cases hs
    exact dw.NY hT hf hb h1 h2 h3 hn hv
   ·cases hs
theorem aH.nR [aT] (hT:T.ok P) {f:FuncId} {s:dU} {rs:List fO} {m:Nat} {pl:cm} {args:List D} {R:cY→aa→Prop} (hs:bA P f pl=some (s,rs,m)) (hn:args.length≤m) (hv:vc T s (vW rs R) (V3 R) (ij args) h):aH P f args h R:=by
 unfold bA at hs
 split at hs
 ·cases hs
 ·rename_i fn hf
  split at hs
  ·cases hs
  ·rename_i c hb
   split at hs
   ·rename_i s' rs' h1 h2 h3
    cases hs
    exact aH.NY hT hf hb h1 h2 h3 hn hv
   ·cases hs
end Go.Proofs.YtpklkpkfgmoghaaGreatDoor.Zz
namespace Go.Proofs.YtpklkpkfgmoghaaGreatDoor.Zz
section
variable {T:bh} {K:Ex→Fr→aa→Prop} {E:Fr→D→aa→Prop} {σ:Fr} {h:aa}
theorem Yw {l:List fw}:vc T (.ops l) K E σ h=gE T l (K .normal) E σ h:=rfl
theorem RC {m:Nat} {l:List fw}:vc T (.fS m l) K E σ h=gE T l (K .normal) (fun σ=>Ed E m σ.defs σ.env) σ h:=rfl
theorem EA {K:Fr→aa→Prop}:gE T [] K E σ h=K σ h:=rfl
end
theorem U4 {α:Type} {c:Prop} [Decidable c] {x:α} {K:α→Prop}:(∃d,(if c then some x else none)=some d∧K d)↔c∧K x:=by
 split<;>simp_all
theorem NW {α β:Type} {c:Prop} [Decidable c] {x:α} {f:α→β}:Option.map f (if c then some x else none)=if c then some (f x) else none:=by
 split<;>rfl
theorem Cu (n:Nat):bounds n none none=some (0,n):=by simp [bounds]
theorem Cv (n:Nat) (k:IntKind) (u:Int):bounds n none (some (.int k u))=if 0≤u∧u≤n then some (0,u.toNat) else none:=by simp [bounds,pw]
theorem Cw (n:Nat) (k:IntKind) (l:Int):bounds n (some (.int k l)) none=if 0≤l∧l≤n then some (l.toNat,n) else none:=by simp [bounds,pw]
theorem Cx (n:Nat) (k k':IntKind) (l u:Int):bounds n (some (.int k l)) (some (.int k' u))=if 0≤l∧l≤u∧u≤n then some (l.toNat,u.toNat) else none:=by simp [bounds,pw]
theorem D8 (s:List UInt8) (lo hi:Option D):gH .str (.str s) lo hi none=(bounds s.length lo hi).map fun b=>.str ((s.drop b.1).take (b.2 - b.1)):=rfl
theorem Sn (s:List UInt8) (k:IntKind) (i:Int):bC (.jS (.str s) (.int k i))=if 0≤i∧i<s.length then some (.int .u8 ((s.getD i.toNat 0).toNat:Int)) else none:=by
 simp only [bC]
 by_cases h:0≤i
 ·rw [if_pos h]
  by_cases h2:i.toNat<s.length
  ·rw [List.getElem?_eq_getElem h2,if_pos ⟨h,by omega⟩]
   simp [List.getD,h2]
  ·rw [List.getElem?_eq_none (by omega),if_neg (by omega)]
 ·rw [if_neg h,if_neg (fun x=>h x.1)]
theorem B6 (sz:Nat) (xs:List (List D)) (k:IntKind) (i:Int):bC (.aS sz (.sl xs) (.int k i))=if (0≤i∧i<xs.length)∧(xs.getD i.toNat []).length=sz then some (.cO (xs.getD i.toNat []) 0) else none:=by
 simp only [bC]
 by_cases h:0≤i
 ·rw [if_pos h]
  by_cases h2:i.toNat<xs.length
  ·rw [List.getElem?_eq_getElem h2]
   have:xs.getD i.toNat []=xs[i.toNat]:=by simp [List.getD,h2]
   rw [this]
   have h3:i<(xs.length:Int):=by omega
   simp [h,h3]
  ·rw [List.getElem?_eq_none (by omega),if_neg (by omega)]
 ·rw [if_neg h,if_neg (fun x=>h x.1.1)]
theorem getD_map {α:Type} (l:List α) (f:α→List D) (i:Nat) (x:α) (h:i<l.length):(l.map f).getD i []=f (l.getD i x):=by
 simp [List.getD,h]
theorem Sr (s:List UInt8) (i:Nat) (h:i<s.length):(fX s).getD i []=[.int .u8 ((s.getD i 0).toNat:Int)]:=getD_map s _ i 0 h
theorem yO (s:List UInt8):(fX s).all isByte=true:=by
 simp [fX,isByte]
theorem yP (s:List UInt8):(fX s).map byteOf=s:=by
 induction s with
 | nil=>rfl
 | cons b s ih=>simp only [fX,List.map_cons] at ih ⊢; rw [ih]; simp [byteOf]
theorem zW (s t:List UInt8):fX s++fX t=fX (s++t):=by simp [fX]
theorem zY (s:List UInt8) (n:Nat):(fX s).take n=fX (s.take n):=by simp [fX]
theorem zX (s:List UInt8) (n:Nat):(fX s).drop n=fX (s.drop n):=by simp [fX]
theorem Zk (s:List UInt8) (i:Nat) (h:i<s.length):(fX s)[i]? =some [.int .u8 ((s.getD i 0).toNat:Int)]:=by
 simp [fX,List.getD,h]
theorem qM (s:List UInt8):(fX s).length=s.length:=by simp [fX]
theorem Bc {rs:List fO} {d:D} {σ:Fr} {h:aa}:vW rs (fun o _=>o=.ret d) .ret σ h↔σ.defs=[]∧∃ds,eI σ h rs=some ds∧(BF ds=d∨BF (ds.map (plain h))=d):=by
 simp only [vW,cY.ret.injEq]
 constructor
 ·rintro ⟨h1,ds,h2,h3⟩
  refine ⟨h1,ds,h2,?_⟩
  rcases h3 with ⟨_,_,h3⟩ | ⟨_,_,h3⟩
  ·exact .inl h3
  ·exact .inr h3
 ·rintro ⟨h1,ds,h2,h3⟩
  refine ⟨h1,ds,h2,?_⟩
  rcases h3 with h3 | h3
  ·exact .inl ⟨.emp,aa.mV _,h3⟩
  ·exact .inr ⟨.emp,aa.mV _,h3⟩
theorem IL {rs:List fO} {d:D} {σ:Fr} {h:aa}:vW rs (fun o _=>o=.ret d) .normal σ h↔σ.defs=[]∧∃ds,eI σ h rs=some ds∧(BF ds=d∨BF (ds.map (plain h))=d):=Bc
theorem ah1 {l:List (Nat×D)} {σ:Fr} (h:∀p∈l,σ.env p.1=p.2) (hd:σ.defs=[]):(FB l).le σ:=by
 refine ⟨fun i=>?_,by rw [hd]; rfl⟩
 simp only [FB]
 induction l with
 | nil=>exact .inl rfl
 | cons p l ih=>
  obtain ⟨j,d⟩:=p
  simp only [jx]
  by_cases e:i=j
  ·subst e
   rw [if_pos rfl]
   exact .inr (h (i,d) (by simp)).symm
  ·rw [if_neg e]
   exact ih fun p hp=>h p (by simp [hp])
def TL:List (Nat×D)→Fr→Prop
 | [],σ=>σ.defs=[]
 | (j,d)::l,σ=>σ.env j=d∧TL l σ
theorem NR {σ:Fr}:TL [] σ=(σ.defs=[]):=rfl
theorem H0 {j:Nat} {d:D} {l:List (Nat×D)} {σ:Fr}:TL ((j,d)::l) σ=(σ.env j=d∧TL l σ):=rfl
theorem LZ:∀{l:List (Nat×D)} {σ:Fr},TL l σ→(FB l).le σ
 | [],σ,h=>ah1 (fun p hp=>by simp at hp) h
 | (j,d)::l,σ,h=>by
  have ih:=LZ h.2
  refine ⟨fun i=>?_,ih.2⟩
  simp only [FB,jx]
  by_cases e:i=j
  ·subst e; rw [if_pos rfl]; exact .inr h.1.symm
  ·rw [if_neg e]; exact ih.1 i
theorem Ok {h:aa}:aa.emp.sub h:=aa.mV h
theorem af7 {T:bh} {s:dU} {K:Ex→Fr→aa→Prop} {E:Fr→D→aa→Prop} {σ:Fr} {h:aa} {X:Type} (F:X→List (Nat×D)) (H:X→aa) (μ:X→Nat) (I:X→Prop) (x0:X) (h1:I x0) (h2:TL (F x0) σ) (h3:(H x0).sub h)
  (h4:∀x,I x→vc T s (fun e σ' h'=>match e with | .normal=>∃x',I x'∧TL (F x') σ'∧(H x').sub h'∧μ x'<μ x | e=>K e σ' h') E (FB (F x)) (H x)):vc T (.loop s) K E σ h:=
 ⟨X,fun x=>FB (F x),H,μ,I,x0,h1,LZ h2,h3,fun x hx=>jz (fun e σ h k=>by
  cases e with
  | normal=>obtain ⟨x',a,b,c⟩:=k; exact ⟨x',a,LZ b,c⟩
  | _=>exact k) (fun _ _ _ k=>k) (h4 x hx)⟩
theorem H9 (l:List (Nat×D)) (i:Nat):(FB l).env i=jx l i:=rfl
theorem Dw (l:List (Nat×D)):(FB l).defs=[]:=rfl
theorem wrap_i64 {x:Int} (h1: -9223372036854775808≤x) (h2:x≤9223372036854775807):IntKind.i64.wrap x=x:=by
 simp [IntKind.wrap,IntKind.bits,IntKind.signed]
 split<;>omega
theorem BO {x:Nat} (h2:x≤9223372036854775807):IntKind.i64.wrap (x:Int)=x:=wrap_i64 (by omega) (by omega)
theorem cp {i:Nat} (h:i<9223372036854775807):IntKind.i64.wrap ((i:Int)+1)=((i+1:Nat):Int):=by rw [wrap_i64 (by omega) (by omega)]; omega
theorem wrap_add {i j:Nat} (h:i+j≤9223372036854775807):IntKind.i64.wrap ((i:Int)+(j:Int))=((i+j:Nat):Int):=by rw [wrap_i64 (by omega) (by omega)]; omega
def bh.zero:bh:=⟨fun _ _=>.none,fun _=>.none,fun _ _ _ _ _=>False,fun _ _ _ _ _ _ _ _ _ h=>h,fun _ _ _ _=>False,fun _ _ _ _ _ _ h=>h,fun _ _ _ _ _ _=>False,fun _ _ _ _ _ _ _ _ _ _ h=>h⟩
theorem bh.dJ [aT] (P:Program):bh.zero.ok P:=⟨fun _ _ _ h=>(by cases h),fun _ _ _ h=>(by cases h),fun _ _ _ _ _ h=>h.elim,fun _ _ _ _ h=>h,fun _ _ _ _ _ _ _ _ _ _ h=>h.elim⟩
def bh.dR (T:bh) (f:FuncId) (q:List D→Option D):bh:={ T with q:=fun g args=>if g=f then q args else T.q g args }
theorem bh.bE [aT] {P:Program} {T:bh} (hT:T.ok P) {f:FuncId} {q:List D→Option D} (hq:∀args d,q args=some d→aV P f args d):(T.dR f q).ok P:=
 ⟨fun g args d h=>by
  simp only [bh.dR] at h
  split at h
  ·rename_i e; subst e; exact .inl (hq args d h)
  ·exact hT.q g args d h,hT.a,hT.c,hT.y,hT.r⟩
theorem bh.EL [aT] {P:Program} {T:bh} (hT:T.ok P) {f:FuncId} {q:List D→Option D} (hq:∀args d,q args=some d→zg P f args d):(T.dR f q).ok P:=
 ⟨fun g args d h=>by
  simp only [bh.dR] at h
  split at h
  ·rename_i e; subst e; exact .inr (hq args d h)
  ·exact hT.q g args d h,hT.a,hT.c,hT.y,hT.r⟩
def bh.sv (T:bh) (f:FuncId) (c:List D→aa→(D→aa→Prop)→Prop) (m:∀args h (K K':D→aa→Prop),(∀d h,K d h→K' d h)→c args h K→c args h K'):bh:=
 { T with
  c:=fun g args h K E=>if g=f then c args h K else T.c g args h K E
  mono:=fun g args h K E K' E' hk he=>by
   split
   ·exact m args h K K' hk
   ·exact T.mono g args h K E K' E' hk he }
theorem bh.lL [aT] {P:Program} {T:bh} (hT:T.ok P) {f:FuncId} {c:List D→aa→(D→aa→Prop)→Prop} {m:∀args h (K K':D→aa→Prop),(∀d h,K d h→K' d h)→c args h K→c args h K'}
  (hc:∀args h K,c args h K→aH P f args h fun o h'=>∃d,o=.ret d∧K d h'):(T.sv f c m).ok P:=
 ⟨hT.q,hT.a,fun g args h K E x=>by
  simp only [bh.sv] at x
  split at x
  ·rename_i e
   subst e
   exact (hc args h K x).mono fun o h' ⟨d,e,k⟩=>by subst e; exact k
  ·exact hT.c g args h K E x,hT.y,hT.r⟩
def Mq (rs:List fO) (K:D→aa→Prop) (e:Ex) (σ:Fr) (h:aa):Prop:=
 match e with
 | .exit _=>False
 | _=>σ.defs=[]∧∃ds,eI σ h rs=some ds∧K (BF ds) h
theorem IM {rs:List fO} {K:D→aa→Prop} {σ:Fr} {h:aa}:Mq rs K .ret σ h=(σ.defs=[]∧∃ds,eI σ h rs=some ds∧K (BF ds) h):=rfl
theorem xc {rs:List fO} {K:D→aa→Prop} {σ:Fr} {h:aa}:Mq rs K .normal σ h=(σ.defs=[]∧∃ds,eI σ h rs=some ds∧K (BF ds) h):=rfl
def bh.adk (T:bh) (f:FuncId) (s:dU) (rs:List fO) (m:Nat):bh:=
 { T with
  c:=fun g args h K E=>if g=f then args.length≤m∧vc T s (Mq rs K) (fun σ d h=>σ.defs=[]∧E d h) (ij args) h else T.c g args h K E
  mono:=fun g args h K E K' E' hk he=>by
   split
   ·exact fun x=>⟨x.1,jz (fun e σ h k=>by
     cases e with
     | exit i=>exact k
     | _=>obtain ⟨a,ds,b,c⟩:=k; exact ⟨a,ds,b,hk _ _ c⟩) (fun ds d h k=>⟨k.1,he _ _ k.2⟩) x.2⟩
   ·exact T.mono g args h K E K' E' hk he }
theorem bh.YR [aT] {P:Program} {T:bh} (hT:T.ok P) {f:FuncId} {s:dU} {rs:List fO} {m:Nat} {pl:cm} (hs:bA P f pl=some (s,rs,m)):(T.adk f s rs m).ok P:=
 ⟨hT.q,hT.a,fun g args h K E x=>by
  simp only [bh.adk] at x
  split at x
  ·rename_i e
   subst e
   refine aH.nR hT hs x.1 (jz (fun e σ h k=>?_) (fun ds d h k=>⟨k.1,h,aa.aj h,k.2⟩) x.2)
   cases e with
   | exit i=>exact k
   | _=>obtain ⟨a,ds,b,c⟩:=k; exact ⟨a,ds,b,.inl ⟨h,aa.aj h,c⟩⟩
  ·exact hT.c g args h K E x,hT.y,hT.r⟩
theorem aH.ah9 [aT] {P:Program} {T:bh} (hT:T.ok P) {f:FuncId} {s:dU} {rs:List fO} {m:Nat} {pl:cm} {args:List D} {h:aa} {K:D→aa→Prop} (hs:bA P f pl=some (s,rs,m)) (hn:args.length≤m)
  (hv:vc T s (Mq rs K) (fun _ _ _=>False) (ij args) h):aH P f args h fun o h'=>∃d,o=.ret d∧K d h':=by
 refine aH.nR hT hs hn (jz (fun e σ h k=>?_) (fun ds d h k=>k.elim) hv)
 cases e with
 | exit i=>exact k
 | _=>obtain ⟨a,ds,b,c⟩:=k; exact ⟨a,ds,b,.inl ⟨h,aa.aj h,_,rfl,c⟩⟩
end Go.Proofs.YtpklkpkfgmoghaaGreatDoor.Zz
