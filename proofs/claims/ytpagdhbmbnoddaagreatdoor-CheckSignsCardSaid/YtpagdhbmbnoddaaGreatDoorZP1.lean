/- Calls that were put off: plain ones; one that recovers. Calls that may panic, in tables. -/
import Derived.Test.YtpagdhbmbnoddaaGreatDoorZZG
import Derived.RecoverIn
set_option linter.unnecessarySimpa false
set_option linter.unusedVariables false
set_option linter.unusedSimpArgs false
set_option maxRecDepth 20000
namespace Go.Proofs.YtpagdhbmbnoddaaGreatDoor.Zz
variable {P : Program} {T : Tab} {κ : Kap} {h : AHeap} {w : World} {σ : Fr} {n : Nat} {a : Act}
def retO (rs : List ResI) (K : AHeap → Prop) (e : Ex) (σ : Fr) (h : AHeap) : Prop :=
  match e with
  | .exit _ => False
  | _ => σ.defs = [] ∧ ∃ ds, evRes σ h rs = some ds ∧ ∃ h', h'.sub h ∧ K h'
theorem retO_normal {rs : List ResI} {K : AHeap → Prop} : retO rs K .normal σ h = (σ.defs = [] ∧ ∃ ds, evRes σ h rs = some ds ∧ ∃ h', h'.sub h ∧ K h') := rfl
theorem MRel.settle {u : Option D} {m : FrameMode} (r : MRel κ w u m) : Go.settle m = m := by
  cases r <;> rfl
theorem DCallsAt.of_stm [Globs] (hT : T.okY P κ w) {k : FuncId} {s : Stm} {rs : List ResI} {m : Nat} {pl : Plan} {args : List D} {u : Option D} {F : Option D → AHeap → Prop} (hs : stmOf P k pl = some (s, rs, m)) (hn : args.length ≤ m)
    (hv : vc T s (todo T (retO rs (F u)) (fun _ _ _ => False) []) (fun _ _ _ => False) (argFr args) h) : DCallsAt P κ w k args u h F := by
  unfold stmOf at hs
  split at hs
  · cases hs
  · rename_i fn hf
    split at hs
    · cases hs
    · rename_i c hb
      split at hs
      · rename_i s' rs' h1 h2 h3
        cases hs
        refine ⟨h1, fun vs md hi hrep hm => ?_⟩
        have hp := args_pre hi hrep hn
        have key := vc_sound c s pl h2 none (fun _ => rfl) κ h w hT hi _ _ κ h w _ _ hi hp (Ev.refl κ h w) hv
        have post := callsDIn_of_wp (F := FW none) (n := 0) (u := md) (R := fun e w' => ∃ v h' κ', e = .returned v ∧ F u h' ∧ Inv κ' h' w' ∧ Ev κ h w κ' h' w') hf hb trivial (wpIn_mono key fun e a' w' q => by
          cases e with
          | normal =>
            obtain ⟨κ', h', σ', k, i', p', e'⟩ := q
            obtain ⟨k1, ds, k2, h'', k3, k4⟩ := k
            obtain ⟨us, g1, g2⟩ := res_sound (P := P) i' p' h3 k2
            have hd : a'.defers = [] := by
              have := p'.defs
              rw [k1] at this
              generalize a'.defers = dd at this
              cases this
              rfl
            exact ⟨hd, _, g1, _, h'', κ', rfl, k4, i'.sub k3, e'.sub k3⟩
          | ret =>
            obtain ⟨κ', h', σ', k, i', p', e'⟩ := q
            obtain ⟨k1, ds, k2, h'', k3, k4⟩ := k
            obtain ⟨us, g1, g2⟩ := res_sound (P := P) i' p' h3 k2
            have hd : a'.defers = [] := by
              have := p'.defs
              rw [k1] at this
              generalize a'.defers = dd at this
              cases this
              rfl
            exact ⟨hd, _, g1, _, h'', κ', rfl, k4, i'.sub k3, e'.sub k3⟩
          | exit id => obtain ⟨κ', h', σ', k, _⟩ := q; exact k.elim
          | panic chain => obtain ⟨κ', h', d, v, σ', _, k, _⟩ := q; exact k.elim
          | goto l => exact q.elim
          | outgrown => exact q.elim)
        refine CallsDIn.mono post fun e m' w' ⟨hm', v, h', κ', e1, e2, e3, e4⟩ => ?_
        subst hm'
        exact ⟨v, u, h', κ', e1, e2, by rw [hm.settle]; exact hm.mono (e4.le hi), e3, e4⟩
      · cases hs
def recD : Option D → D
  | none => .nilif
  | some d => d
theorem DCallsAt.of_rec [Globs] (hT : T.okY P κ w) {k : FuncId} {fn : Func} {id : Nat} {o1 o2 : Oper} {rest : Code} {t1 t2 : Nat} {s : Stm} {pl : Plan} {rs : List ResI} {args : List D} {u : Option D} {F : Option D → AHeap → Prop} (hcal : callable P k = true) (hf : P.funcs[k]? = some fn) (hb : fn.body = some (.seq (.region id #[o1, o2] false) rest))
    (g1 : o1.guard = none) (g2 : o2.guard = none) (d1 : o1.dst = some t1) (d2 : o2.dst = some t2) (l1 : t1 < fn.ntmps) (l2 : t2 < fn.ntmps)
    (e1 : ∀ (ev : Operand → Value) w, (execOp ev o1).run P w = .ok .recover w) (e2 : ∀ (ev : Operand → Value) w, (execOp ev o2).run P w = .ok (.value (ev (.tmp t1))) w)
    (hc : comp P fn.ntmps pl rest = some s) (hr : resI P fn.results.toList = some rs) (hn : args.length ≤ fn.ntmps)
    (hv : vc T s (todo T (retO rs (F none)) (fun _ _ _ => False) []) (fun _ _ _ => False) (((argFr args).put (some t1) (recD u)).put (some t2) (recD u)) h) : DCallsAt P κ w k args u h F := by
  refine ⟨hcal, fun vs md hi hrep hm => callsDIn_of_wpSIn hf hb trivial fun c₀ cs hmode => ?_⟩
  have hp := args_pre hi hrep hn
  generalize hA : ({ tmps := vs ++ Array.replicate (fn.ntmps - vs.size) undef, defers := [] } : Act) = A at hp ⊢
  have hAd : A.defers = [] := by rw [← hA]
  have tail : ∀ (v : Value) (c₁ : Frame) (m' : FrameMode), c₁ = { c₀ with mode := m' } → Go.settle m' = .returning → Rep κ w v (recD u) →
      rest.wpSIn (FW none) 0 P (bodyPostS P fn c₀ cs fun e m' w' => ∃ v u' h' κ', e = .returned v ∧ F u' h' ∧ MRel κ' w' u' (Go.settle m') ∧ Inv κ' h' w' ∧ Ev κ h w κ' h' w') ((A.put (some t1) v).put (some t2) v) (c₁ :: cs) w := by
    intro v c₁ m' hc1 hm' hrv
    refine wpSIn_of_wpIn rfl ?_
    have hp2 := (hp.put (some t1) (fun t e => by cases e; exact l1) hrv).put (some t2) (fun t e => by cases e; exact l2) hrv
    have key := vc_sound rest s pl hc none (fun _ => rfl) κ h w hT hi _ _ κ h w _ _ hi hp2 (Ev.refl κ h w) hv
    refine wpIn_mono key fun e a' w' q => ?_
    have fin : ∀ (κ' : Kap) (h' : AHeap) (σ' : Fr), (σ'.defs = [] ∧ ∃ ds, evRes σ' h' rs = some ds ∧ ∃ h'', h''.sub h' ∧ F none h'') → Inv κ' h' w' → Pre κ' w' σ' fn.ntmps a' → Ev κ h w κ' h' w' →
        a'.defers = [] ∧ ∃ u', c₁ :: cs = { c₀ with mode := u' } :: cs ∧ ∃ v, (results fn a'.tmps).run P w' = .ok v w' ∧ ∃ v' u'' h' κ', Ending.returned v = .returned v' ∧ F u'' h' ∧ MRel κ' w' u'' (Go.settle u') ∧ Inv κ' h' w' ∧ Ev κ h w κ' h' w' := by
      intro κ' h' σ' ⟨k1, ds, k2, h'', k3, k4⟩ i' p' e'
      obtain ⟨us, g1, g2⟩ := res_sound (P := P) i' p' hr k2
      have hd : a'.defers = [] := by
        have := p'.defs
        rw [k1] at this
        generalize a'.defers = dd at this
        cases this
        rfl
      exact ⟨hd, m', by rw [hc1], _, g1, _, none, h'', κ', rfl, k4, by rw [hm']; exact .ret, i'.sub k3, e'.sub k3⟩
    cases e with
    | normal => obtain ⟨κ', h', σ', k, i', p', e'⟩ := q; exact fin κ' h' σ' k i' p' e'
    | ret => obtain ⟨κ', h', σ', k, i', p', e'⟩ := q; exact fin κ' h' σ' k i' p' e'
    | exit id => obtain ⟨κ', h', σ', k, _⟩ := q; exact k.elim
    | panic chain => obtain ⟨κ', h', d, v, σ', _, k, _⟩ := q; exact k.elim
    | goto l => exact q.elim
    | outgrown => exact q.elim
  have hget : ∀ v, ((A.put (some t1) v).eval (.tmp t1)) = v := fun v => by
    have : t1 < A.tmps.size := by rw [hp.size]; exact l1
    simp [Act.put, Act.eval, Array.getD_eq_getD_getElem?, this]
  refine wpSIn_seq (wpSIn_region ?_)
  have hw1 : ∀ y, Region.wanted o1 y = true := fun y => by simp [Region.wanted, g1]
  have hw2 : ∀ y, Region.wanted o2 y = true := fun y => by simp [Region.wanted, g2]
  show wpOpsSIn (FW none) 0 P #[o1, o2] _ [0, 1] _ _ _
  simp only [wpOpsSIn, List.getElem?_toArray, List.getElem?_cons_zero, List.getElem?_cons_succ, hw1, hw2, e1, e2, d1, d2, if_true, hget]
  refine ⟨fun _ _ => trivial, ?_⟩
  subst hmode
  cases hm' : c₀.mode with
  | run => rw [hm'] at hm; cases hm
  | returning =>
    rw [hm'] at hm
    cases hm
    have : recoverD (c₀ :: cs) = none := by simp [recoverD, hm']
    rw [this]
    refine ⟨fun _ _ => trivial, tail _ c₀ c₀.mode rfl (by rw [hm']; rfl) .nilif⟩
  | panicking ch =>
    rw [hm'] at hm
    cases hm with
    | pan r =>
      rename_i v d
      have : recoverD (c₀ :: cs) = some (v, { c₀ with mode := .panicking [{ v, recovered := true }] } :: cs) := by simp [recoverD, hm']
      rw [this]
      exact ⟨fun _ _ => trivial, tail _ _ _ rfl rfl r⟩
def Tab.addE (T : Tab) (f : FuncId) (c : List D → AHeap → (D → AHeap → Prop) → (D → AHeap → Prop) → Prop)
    (m : ∀ args h (K E K' E' : D → AHeap → Prop), (∀ d h, K d h → K' d h) → (∀ d h, E d h → E' d h) → c args h K E → c args h K' E') : Tab :=
  { T with
    c := fun g args h K E => if g = f then c args h K E else T.c g args h K E
    mono := fun g args h K E K' E' hk he => by
      split
      · exact m args h K E K' E' hk he
      · exact T.mono g args h K E K' E' hk he }
theorem Tab.addE_ok [Globs] (hT : T.ok P) {f : FuncId} {c : List D → AHeap → (D → AHeap → Prop) → (D → AHeap → Prop) → Prop} {m : ∀ args h (K E K' E' : D → AHeap → Prop), (∀ d h, K d h → K' d h) → (∀ d h, E d h → E' d h) → c args h K E → c args h K' E'}
    (hc : ∀ args h K E, c args h K E → ACalls P f args h (AOut.to K E)) : (T.addE f c m).ok P :=
  ⟨hT.q, hT.a, fun g args h K E x => by
    simp only [Tab.addE] at x
    split at x
    · rename_i e; subst e; exact hc args h K E x
    · exact hT.c g args h K E x, hT.y, hT.r⟩
theorem ACalls.frameU [Globs] {f : FuncId} {args : List D} {h1 : AHeap} {R : AOut → AHeap → Prop} (sub : h1.sub h) (c : ACalls P f args h1 R) : ACalls P f args h fun o h' => ∃ h1', R o h1' ∧ h' = h1'.union (h.minus h1) := by
  refine ⟨c.1, fun κ w vs hi hr => ?_⟩
  refine (c.2 κ w vs (hi.sub sub) hr).mono fun e w' ⟨o, h', κ', a1, a2, a3, a4⟩ => ?_
  obtain ⟨f1, f2, f3⟩ := hi.frame sub a3 a4
  exact ⟨o, _, κ', ⟨h', a1, rfl⟩, a2, f1, f2⟩
theorem union_one {id : Nat} {o o' : AObj} (e : h.f id = some o) : (AHeap.emp.set id o').union (h.minus (AHeap.emp.set id o)) = h.set id o' := by
  refine AHeap.ext fun q => ?_
  simp only [AHeap.union, AHeap.minus, AHeap.set_f]
  by_cases c : q = id
  · subst c; simp
  · simp [c, AHeap.emp]
theorem sub_one {id : Nat} {o : AObj} (e : h.f id = some o) : (AHeap.emp.set id o).sub h := fun q p hp => by
  simp only [AHeap.set_f] at hp
  split at hp
  · rename_i c; subst c; cases hp; exact e
  · simp [AHeap.emp] at hp
def recOf [Globs] (P : Program) (f : FuncId) (pl : Plan) : Option (Stm × List ResI × Nat × Nat × Nat) :=
  match P.funcs[f]? with
  | none => none
  | some fn => match fn.body with
    | some (.seq (.region _ ⟨[o1, o2]⟩ false) rest) => match o1.op, o1.guard, o1.dst, o2.op, o2.guard, o2.dst with
      | .call c, none, some t1, .assign (.tmp t), none, some t2 => match c.callee, decide (t = t1 ∧ t1 < fn.ntmps ∧ t2 < fn.ntmps), callable P f, comp P fn.ntmps pl rest, resI P fn.results.toList with
        | .builtin .recover, true, true, some s, some rs => some (s, rs, fn.ntmps, t1, t2)
        | _, _, _, _, _ => none
      | _, _, _, _, _, _ => none
    | _ => none
theorem DCallsAt.of_recOf [Globs] (hT : T.okY P κ w) {k : FuncId} {s : Stm} {rs : List ResI} {m t1 t2 : Nat} {pl : Plan} {args : List D} {u : Option D} {F : Option D → AHeap → Prop} (hs : recOf P k pl = some (s, rs, m, t1, t2)) (hn : args.length ≤ m)
    (hv : vc T s (todo T (retO rs (F none)) (fun _ _ _ => False) []) (fun _ _ _ => False) (((argFr args).put (some t1) (recD u)).put (some t2) (recD u)) h) : DCallsAt P κ w k args u h F := by
  unfold recOf at hs
  split at hs
  · cases hs
  · rename_i fn hf
    split at hs
    · rename_i id o1 o2 rest hb
      split at hs
      · rename_i c t1' t t2' p1 g1 d1 p2 g2 d2
        split at hs
        · rename_i s' rs' hc hd hcal hcm hr
          cases hs
          obtain ⟨rfl, l1, l2⟩ := of_decide_eq_true hd
          exact DCallsAt.of_rec hT hcal hf hb g1 g2 d1 d2 l1 l2 (fun ev w => by simp only [execOp, p1, resolve, hc, Sem.run_bind, Sem.run_pure, Result.andThen, invoke, builtin]) (fun ev w => by simp only [execOp, p2]; rfl) hcm hr hn hv
        · cases hs
      · cases hs
    · cases hs
end Go.Proofs.YtpagdhbmbnoddaaGreatDoor.Zz
namespace Go.Proofs.YtpagdhbmbnoddaaGreatDoor.Zz
noncomputable section
def p33p : Plan := ⟨⟨[], [], [(1, 8)], [], [], []⟩, [(1, [0, 1, 2, 3, 4, 5, 6, 7, 8, 9, 10])], [], false⟩
def s33p : Stm :=
 .seq (.ops [⟨.alloc [(.int .i64 0), (.str []), (.int .i64 0)], some 2, none, false⟩])
 (.seq (.opsD 3 [⟨.mov (.t 0), some 3, none, true⟩,
 ⟨.nilCheck (.t 3), some 4, none, true⟩,
 ⟨.fieldAddr 0 (.t 4), some 5, none, true⟩,
 ⟨.load none (.t 5), some 6, none, false⟩,
 ⟨.mov (.t 0), some 7, none, true⟩,
 ⟨.nilCheck (.t 7), some 8, none, true⟩,
 ⟨.fieldAddr 1 (.t 8), some 9, none, true⟩,
 ⟨.load none (.t 9), some 10, none, false⟩,
 ⟨.indexAddrS 3 (.t 6) (.t 10), some 11, none, false⟩,
 ⟨.load (some 3) (.t 11), some 12, none, false⟩,
 ⟨.store 3 (.t 2) (.t 12), none, none, false⟩])
 (.ret))
theorem st33p : stmOf Tryz.prog 33 p33p = some (s33p, [.cell 2 (some 3)], 13) := by kernel_rfl
def p34p : Plan := ⟨⟨[], [(1, 1)], [], [], [], []⟩, [], [], false⟩
def s34p : Stm :=
 .seq (.ops [⟨.mov (.c (.bool false)), some 4, none, true⟩])
 (.seq (.ops [⟨.mov (.t 0), some 6, none, true⟩,
 ⟨.call (.f 33) [(.t 6)], some 7, none, false⟩,
 ⟨.alloc [(.int .i64 0), (.str []), (.int .i64 0)], some 5, none, false⟩,
 ⟨.store 3 (.t 5) (.t 7), none, none, false⟩])
 (.seq (.ops [⟨.fieldAddr 1 (.t 5), some 8, none, true⟩,
 ⟨.load none (.t 8), some 9, none, false⟩,
 ⟨.mov (.t 1), some 10, none, true⟩,
 ⟨.bin .eql (.t 9) (.t 10), some 11, none, true⟩,
 ⟨.mov (.t 11), some 12, none, true⟩,
 ⟨.fieldAddr 0 (.t 5), some 13, (some (12, true)), true⟩,
 ⟨.load none (.t 13), some 14, (some (12, true)), false⟩,
 ⟨.bin .eql (.t 14) (.c (.int .i64 5)), some 15, (some (12, true)), true⟩,
 ⟨.mov (.t 15), some 16, (some (12, true)), true⟩,
 ⟨.fieldAddr 0 (.t 5), some 17, (some (16, false)), true⟩,
 ⟨.load none (.t 17), some 18, (some (16, false)), false⟩,
 ⟨.bin .eql (.t 18) (.c (.int .i64 4)), some 19, (some (16, false)), true⟩,
 ⟨.pick (.t 16) (.c (.bool true)) (.t 19), some 20, (some (12, true)), true⟩,
 ⟨.pick (.t 12) (.t 20) (.c (.bool false)), some 21, none, true⟩,
 ⟨.mov (.t 21), some 4, none, true⟩])
 (.ret)))
theorem st34p : stmOf Tryz.prog 34 p34p = some (s34p, [.tmp 4], 22) := by kernel_rfl
def p35p : Plan := ⟨⟨[], [(0, 1)], [], [], [], []⟩, [], [], false⟩
def s35p : Stm :=
 .ops [⟨.mov (.t 0), some 4, none, true⟩,
 ⟨.call (.f 33) [(.t 4)], some 5, none, false⟩,
 ⟨.field 2 none (.t 5), some 6, none, true⟩,
 ⟨.mov (.t 1), some 7, none, true⟩,
 ⟨.build [(.int .i64 0), (.int .i64 0)] [(0, 1, (.t 6)), (1, 1, (.t 7))], some 8, none, true⟩,
 ⟨.mkIface 48 (.t 8), some 9, none, true⟩,
 ⟨.panic (.t 9), none, none, false⟩]
theorem st35p : stmOf Tryz.prog 35 p35p = some (s35p, [], 10) := by kernel_rfl
def p60p : Plan := ⟨⟨[], [(1, 2)], [], [], [], []⟩, [], [], false⟩
def s60p : Stm :=
 .seq (.ops [⟨.mov (.c (.bool false)), some 4, none, true⟩])
 (.seq (.seq (.ops [⟨.mov (.t 0), some 5, none, true⟩,
 ⟨.mov (.t 1), some 6, none, true⟩,
 ⟨.call (.f 34) [(.t 5), (.t 6)], some 7, none, false⟩])
 (.cond (.t 7)
 (.seq (.ops [⟨.mov (.t 0), some 8, none, true⟩,
 ⟨.nilCheck (.t 8), some 9, none, true⟩,
 ⟨.fieldAddr 1 (.t 9), some 10, none, true⟩,
 ⟨.load none (.t 10), some 11, none, false⟩,
 ⟨.bin .add (.t 11) (.c (.int .i64 1)), some 12, none, true⟩,
 ⟨.nilCheck (.t 8), some 13, none, true⟩,
 ⟨.fieldAddr 1 (.t 13), some 14, none, true⟩,
 ⟨.store 1 (.t 14) (.t 12), none, none, false⟩])
 (.seq (.ops [⟨.mov (.c (.bool true)), some 4, none, true⟩])
 (.ret)))
 (.skip)))
 (.seq (.ops [⟨.mov (.c (.bool false)), some 4, none, true⟩])
 (.ret)))
theorem st60p : stmOf Tryz.prog 60 p60p = some (s60p, [.tmp 4], 15) := by kernel_rfl
def p61p : Plan := ⟨⟨[], [(1, 1), (3, 1)], [], [], [], []⟩, [], [], false⟩
def s61p : Stm :=
 .seq (.ops [⟨.mov (.c (.str [])), some 2, none, true⟩])
 (.seq (.ops [⟨.mov (.t 0), some 4, none, true⟩,
 ⟨.call (.f 33) [(.t 4)], some 5, none, false⟩,
 ⟨.alloc [(.int .i64 0), (.str []), (.int .i64 0)], some 3, none, false⟩,
 ⟨.store 3 (.t 3) (.t 5), none, none, false⟩])
 (.seq (.seq (.ops [⟨.fieldAddr 0 (.t 3), some 6, none, true⟩,
 ⟨.load none (.t 6), some 7, none, false⟩,
 ⟨.bin .neq (.t 7) (.c (.int .i64 1)), some 8, none, true⟩])
 (.cond (.t 8)
 (.ops [⟨.mov (.t 0), some 9, none, true⟩,
 ⟨.call (.f 35) [(.t 9), (.c (.int .i64 110))], some 10, none, false⟩])
 (.skip)))
 (.seq (.ops [⟨.mov (.t 0), some 11, none, true⟩,
 ⟨.nilCheck (.t 11), some 12, none, true⟩,
 ⟨.fieldAddr 1 (.t 12), some 13, none, true⟩,
 ⟨.load none (.t 13), some 14, none, false⟩,
 ⟨.bin .add (.t 14) (.c (.int .i64 1)), some 15, none, true⟩,
 ⟨.nilCheck (.t 11), some 16, none, true⟩,
 ⟨.fieldAddr 1 (.t 16), some 17, none, true⟩,
 ⟨.store 1 (.t 17) (.t 15), none, none, false⟩])
 (.seq (.ops [⟨.fieldAddr 1 (.t 3), some 18, none, true⟩,
 ⟨.load none (.t 18), some 19, none, false⟩,
 ⟨.mov (.t 19), some 2, none, true⟩])
 (.ret)))))
theorem st61p : stmOf Tryz.prog 61 p61p = some (s61p, [.tmp 2], 20) := by kernel_rfl
def p63p : Plan := ⟨⟨[], [(0, 2), (1, 1)], [], [], [], []⟩, [], [], false⟩
def s63p : Stm :=
 .seq (.ops [⟨.mov (.t 0), some 4, none, true⟩,
 ⟨.mov (.t 1), some 5, none, true⟩,
 ⟨.call (.f 60) [(.t 4), (.t 5)], some 6, none, false⟩,
 ⟨.un .not (.t 6), some 7, none, true⟩])
 (.cond (.t 7)
 (.ops [⟨.mov (.t 0), some 8, none, true⟩,
 ⟨.call (.f 35) [(.t 8), (.c (.int .i64 110))], some 9, none, false⟩])
 (.skip))
theorem st63p : stmOf Tryz.prog 63 p63p = some (s63p, [], 10) := by kernel_rfl
def pObj (l : List Tok) (s : PS) : AObj := .cells [.sl (encT l), .int .i64 s.pos, .int .i64 s.nods, .int .i64 s.deep]
structure PSok (l : List Tok) (s : PS) : Prop where
  p0p : 0 ≤ s.pos
  p1p : s.pos < l.length
  n0 : 0 ≤ s.nods
  n1 : s.nods ≤ 2000
  d0 : 0 ≤ s.deep
  d1 : s.deep ≤ 40
structure LOk (l : List Tok) : Prop where
  len : l.length ≤ 10000
  fin : ∀ i t, l[i]? = some t → t.1 ≠ 0 → i + 1 < l.length
def stopD (a e : Int) : D := .iface 48 (.agg [.int .i64 a, .int .i64 e])
def PSat (l : List Tok) (s : PS) : Prop := 0 ≤ s.pos ∧ s.pos < l.length
theorem PSok.at_ {l : List Tok} {s : PS} (ok : PSok l s) : PSat l s := ⟨ok.p0p, ok.p1p⟩
theorem pNow_get {l : List Tok} {s : PS} (ok : PSat l s) : l[s.pos.toNat]? = some (pNow l s) := by
  obtain ⟨h1, h2⟩ := ok
  rw [pNow, List.getD_eq_getElem?_getD, List.getElem?_eq_getElem (by omega)]
  rfl
theorem askE_now {K : D → AHeap → Prop} {h : AHeap} {l : List Tok} {s : PS} (ok : PSat l s) : askE 3 K h (encT l) s.pos = K (.eptr (tokD (pNow l s).1 (pNow l s).2.1 (pNow l s).2.2) 0) h := by
  have h1 := ok.1
  have h2 := ok.2
  have := askE_map (K := K) (h := h) (l := l) (i := s.pos) (f := fun t : Tok => tokD t.1 t.2.1 t.2.2) (sz := 3) fun _ => rfl
  show askE 3 K h (l.map fun t : Tok => tokD t.1 t.2.1 t.2.2) s.pos = _
  rw [this]
  apply propext
  constructor
  · intro hh; exact hh.2 _ (pNow_get ok)
  · intro hh
    refine ⟨⟨h1, h2⟩, fun x hx => ?_⟩
    rw [pNow_get ok] at hx
    cases hx
    exact hh
theorem set_self {h : AHeap} {id : Nat} {o : AObj} (e : h.f id = some o) : h.set id o = h := AHeap.ext fun q => by
  simp only [AHeap.set_f]
  split
  · rename_i c; subst c; exact e.symm
  · rfl
theorem now_c (l : List Tok) (s : PS) (id : Nat) (ok : PSat l s) : ACalls Tryz.prog 33 [.ptr id 1 0] (AHeap.emp.set id (pObj l s)) fun o h' => ∃ d, o = .ret d ∧ d = .agg (tokD (pNow l s).1 (pNow l s).2.1 (pNow l s).2.2) ∧ h' = AHeap.emp.set id (pObj l s) := by
  refine ACalls.of_U (Tab.zero_ok _) st33p (by simp) ?_
  have hn := fun (K : D → AHeap → Prop) (h : AHeap) => askE_now (K := K) (h := h) ok
  simp (maxSteps := 1000000) only [s33p, pObj, retU_ret, tokD, hn, zzK, seval]
  intro i2 n1 n2
  simp (maxSteps := 1000000) only [n1, n2, retU_ret, tokD, hn, zzK, seval]
  exact ⟨_, sub_one (by simp [n2]), rfl⟩
def cNow (args : List D) (h : AHeap) (K : D → AHeap → Prop) : Prop := ∃ (l : List Tok) (s : PS) (id : Nat), args = [.ptr id 1 0] ∧ h.f id = some (pObj l s) ∧ PSat l s ∧ K (.agg (tokD (pNow l s).1 (pNow l s).2.1 (pNow l s).2.2)) h
theorem cNow_mono (args : List D) (h : AHeap) (K K' : D → AHeap → Prop) (hk : ∀ d h, K d h → K' d h) (c : cNow args h K) : cNow args h K' := by
  obtain ⟨l, s, id, a, b, c, d⟩ := c
  exact ⟨l, s, id, a, b, c, hk _ _ d⟩
theorem cNow_ok (args : List D) (h : AHeap) (K : D → AHeap → Prop) (c : cNow args h K) : ACalls Tryz.prog 33 args h fun o h' => ∃ d, o = .ret d ∧ K d h' := by
  obtain ⟨l, s, id, rfl, b, c, d⟩ := c
  refine (ACalls.frameU (sub_one b) (now_c l s id c)).mono fun o h' ⟨h1, ⟨x, e1, e2, e3⟩, e4⟩ => ⟨x, e1, ?_⟩
  rw [e2, e4, e3, union_one b, set_self b]
  exact d
def tb33p : Tab := Tab.zero.addW 33 cNow cNow_mono
theorem tb33p_q : tb33p.q = Tab.zero.q := rfl
theorem tb33p_a : tb33p.a = Tab.zero.a := rfl
theorem tb33p_c (g : FuncId) (args : List D) (h : AHeap) (K E : D → AHeap → Prop) : tb33p.c g args h K E = if g = 33 then cNow args h K else Tab.zero.c g args h K E := rfl
theorem tb33p_ok : tb33p.ok Tryz.prog := Tab.addW_ok (Tab.zero_ok _) cNow_ok
theorem tb33p_e : type_of% (And.intro @tb33p_q (And.intro @tb33p_a @tb33p_c)) := (And.intro @tb33p_q (And.intro @tb33p_a @tb33p_c))
def cFail (args : List D) (h : AHeap) (K E : D → AHeap → Prop) : Prop := ∃ (l : List Tok) (s : PS) (id : Nat) (e : Int), args = [.ptr id 1 0, .int .i64 e] ∧ h.f id = some (pObj l s) ∧ PSat l s ∧ E (stopD (pNow l s).2.2 e) h
theorem cFail_mono (args : List D) (h : AHeap) (K E K' E' : D → AHeap → Prop) (hk : ∀ d h, K d h → K' d h) (he : ∀ d h, E d h → E' d h) (c : cFail args h K E) : cFail args h K' E' := by
  obtain ⟨l, s, id, e, a, b, c, d⟩ := c
  exact ⟨l, s, id, e, a, b, c, he _ _ d⟩
theorem cFail_ok (args : List D) (h : AHeap) (K E : D → AHeap → Prop) (c : cFail args h K E) : ACalls Tryz.prog 35 args h (AOut.to K E) := by
  obtain ⟨l, s, id, e, rfl, b, c, d⟩ := c
  refine ACalls.of_stmD tb33p_ok (dc := DTab.none) (fun _ _ => DTab.none_ok) (by kernel_rfl) st35p (by simp) ?_
  rw [vc_todo]
  simp (maxSteps := 1000000) only [s35p, tb33p_e, zzK, seval]
  refine ⟨l, s, id, rfl, b, c, ?_⟩
  simp (maxSteps := 1000000) only [tokD, i_panic, panD, leav_nil, finD, tb33p_e, zzK, seval]
  exact ⟨h, AHeap.sub_refl h, d⟩
def tb35p : Tab := tb33p.addE 35 cFail cFail_mono
theorem tb35p_q : tb35p.q = tb33p.q := rfl
theorem tb35p_a : tb35p.a = tb33p.a := rfl
theorem tb35p_c (g : FuncId) (args : List D) (h : AHeap) (K E : D → AHeap → Prop) : tb35p.c g args h K E = if g = 35 then cFail args h K E else tb33p.c g args h K E := rfl
theorem tb35p_ok : tb35p.ok Tryz.prog := Tab.addE_ok tb33p_ok cFail_ok
theorem tb35p_e : type_of% (And.intro (And.intro @tb35p_q (And.intro @tb35p_a @tb35p_c)) @tb33p_e) := (And.intro (And.intro @tb35p_q (And.intro @tb35p_a @tb35p_c)) @tb33p_e)
def cP {α : Type} (sp : PS → PR α) (enc : α → D) (l : List Tok) (s : PS) (id : Nat) (h : AHeap) (K E : D → AHeap → Prop) : Prop :=
  h.f id = some (pObj l s) ∧ PSok l s ∧ wpR (sp s) (fun x s' => PSok l s' → K (enc x) (h.set id (pObj l s'))) (fun a e => ∀ s', E (stopD a e) (h.set id (pObj l s')))
theorem cP_mono {α : Type} {sp : PS → PR α} {enc : α → D} {l : List Tok} {s : PS} {id : Nat} {h : AHeap} {K E K' E' : D → AHeap → Prop} (hk : ∀ d h, K d h → K' d h) (he : ∀ d h, E d h → E' d h) (c : cP sp enc l s id h K E) : cP sp enc l s id h K' E' :=
  ⟨c.1, c.2.1, wpR_mono (fun x s' k ok => hk _ _ (k ok)) (fun a e k s' => he _ _ (k s')) c.2.2⟩
def retP {α : Type} (enc : α → D) (l : List Tok) (id : Nat) (K0 : α → PS → Prop) (E0 : Int → Int → Prop) (o : AOut) (h' : AHeap) : Prop :=
  match o with
  | .ret d => ∃ x s', d = enc x ∧ h' = AHeap.emp.set id (pObj l s') ∧ K0 x s'
  | .panic d => ∃ a e s', d = stopD a e ∧ h' = AHeap.emp.set id (pObj l s') ∧ E0 a e
theorem cP_ok {α : Type} {sp : PS → PR α} {enc : α → D} {l : List Tok} {s : PS} {id : Nat} {h : AHeap} {K E : D → AHeap → Prop} {f : FuncId} {args : List D}
    (hmin : PSok l s → ∀ (K0 : α → PS → Prop) (E0 : Int → Int → Prop), wpR (sp s) (fun x s' => PSok l s' → K0 x s') E0 → ACalls Tryz.prog f args (AHeap.emp.set id (pObj l s)) (retP enc l id K0 E0)) (c : cP sp enc l s id h K E) : ACalls Tryz.prog f args h (AOut.to K E) := by
  obtain ⟨b, ok, hw⟩ := c
  refine (ACalls.frameU (sub_one b) (hmin ok (fun x s' => K (enc x) (h.set id (pObj l s'))) (fun a e => ∀ s', E (stopD a e) (h.set id (pObj l s'))) hw)).mono fun o h' ⟨h1, e1, e4⟩ => ?_
  cases o with
  | ret d =>
    obtain ⟨x, s', e2, e3, k⟩ := e1
    show K d h'
    rw [e2, e4, e3, union_one b]
    exact k
  | panic d =>
    obtain ⟨a, e, s', e2, e3, k⟩ := e1
    show E d h'
    rw [e2, e4, e3, union_one b]
    exact k s'
theorem mid_ret {α : Type} {enc : α → D} {l : List Tok} {id : Nat} {K0 : α → PS → Prop} {E0 : Int → Int → Prop} {h : AHeap} {d : D} {x : α} {s' : PS} {C : Prop} (e : d = enc x) (hid : h.f id = some (pObj l s')) (k : K0 x s') :
    (∃ h', h'.sub h ∧ retP enc l id K0 E0 (.ret d) h') ∨ C := .inl ⟨_, sub_one hid, x, s', e, rfl, k⟩
theorem mid_ret' {α : Type} {enc : α → D} {l : List Tok} {id : Nat} {K0 : α → PS → Prop} {E0 : Int → Int → Prop} {h : AHeap} {d : D} {x : α} {s' : PS} {C : Prop} (e : d = enc x) (hid : h.f id = some (pObj l s')) (k : K0 x s') :
    C ∨ ∃ h', h'.sub h ∧ retP enc l id K0 E0 (.ret d) h' := .inr ⟨_, sub_one hid, x, s', e, rfl, k⟩
theorem is_c (l : List Tok) (s : PS) (id : Nat) (x : List UInt8) (ok : PSat l s) : ACalls Tryz.prog 34 [.ptr id 1 0, .str x] (AHeap.emp.set id (pObj l s)) fun o h' => ∃ d, o = .ret d ∧ d = .bool (pIs l x s) ∧ h' = AHeap.emp.set id (pObj l s) := by
  refine ACalls.of_U tb33p_ok st34p (by simp) ?_
  simp (maxSteps := 1000000) only [s34p, retU_ret, tb35p_e, zzK, seval]
  refine ⟨l, s, id, rfl, by simp, ok, ?_⟩
  unfold pIs
  generalize pNow l s = t
  obtain ⟨k, y, a⟩ := t
  simp (maxSteps := 1000000) only [tokD, retU_ret, tb35p_e, zzK, seval]
  intro i2 n1 n2
  cases c1p : (y == x) <;> cases c2p : (k == 5) <;> cases c3p : (k == 4)
  all_goals
    simp (maxSteps := 1000000) only [c1p, c2p, c3p, n1, n2, retU_ret, tb35p_e, zzK, seval]
    exact ⟨_, sub_one (by simp [n2]), rfl⟩
def cIs (args : List D) (h : AHeap) (K : D → AHeap → Prop) : Prop := ∃ (l : List Tok) (s : PS) (id : Nat) (x : List UInt8), args = [.ptr id 1 0, .str x] ∧ h.f id = some (pObj l s) ∧ PSat l s ∧ K (.bool (pIs l x s)) h
theorem cIs_mono (args : List D) (h : AHeap) (K K' : D → AHeap → Prop) (hk : ∀ d h, K d h → K' d h) (c : cIs args h K) : cIs args h K' := by
  obtain ⟨l, s, id, x, a, b, c, d⟩ := c
  exact ⟨l, s, id, x, a, b, c, hk _ _ d⟩
theorem cIs_ok (args : List D) (h : AHeap) (K : D → AHeap → Prop) (c : cIs args h K) : ACalls Tryz.prog 34 args h fun o h' => ∃ d, o = .ret d ∧ K d h' := by
  obtain ⟨l, s, id, x, rfl, b, c, d⟩ := c
  refine (ACalls.frameU (sub_one b) (is_c l s id x c)).mono fun o h' ⟨h1, ⟨x, e1, e2, e3⟩, e4⟩ => ⟨x, e1, ?_⟩
  rw [e2, e4, e3, union_one b, set_self b]
  exact d
def tb34p : Tab := tb35p.addW 34 cIs cIs_mono
theorem tb34p_q : tb34p.q = tb35p.q := rfl
theorem tb34p_a : tb34p.a = tb35p.a := rfl
theorem tb34p_c (g : FuncId) (args : List D) (h : AHeap) (K E : D → AHeap → Prop) : tb34p.c g args h K E = if g = 34 then cIs args h K else tb35p.c g args h K E := rfl
theorem tb34p_ok : tb34p.ok Tryz.prog := Tab.addW_ok tb35p_ok cIs_ok
theorem tb34p_e : type_of% (And.intro (And.intro @tb34p_q (And.intro @tb34p_a @tb34p_c)) @tb35p_e) := (And.intro (And.intro @tb34p_q (And.intro @tb34p_a @tb34p_c)) @tb35p_e)
theorem pIs_fin {l : List Tok} {s : PS} {x : List UInt8} (hl : LOk l) (ok : PSok l s) (h : pIs l x s = true) : PSok l (pStep s) := by
  obtain ⟨h1, h2, h3, h4, h5, h6⟩ := ok
  have := hl.fin _ _ (pNow_get ⟨h1, h2⟩) (fun e => by simp [pIs, e] at h)
  exact ⟨by simp only [pStep]; omega, by simp only [pStep]; omega, h3, h4, h5, h6⟩
theorem take_c (l : List Tok) (hl : LOk l) (s : PS) (id : Nat) (x : List UInt8) (ok : PSok l s) (K0 : Bool → PS → Prop) (E0 : Int → Int → Prop) (hw : wpR (pTake l x s) (fun x s' => PSok l s' → K0 x s') E0) : ACalls Tryz.prog 60 [.ptr id 1 0, .str x] (AHeap.emp.set id (pObj l s)) (retP D.bool l id K0 E0) := by
  refine ACalls.of_stmD tb34p_ok (dc := DTab.none) (fun _ _ => DTab.none_ok) (by kernel_rfl) st60p (by simp) ?_
  rw [vc_todo]
  have w1 : IntKind.i64.wrap (s.pos + 1) = s.pos + 1 := wrap_i64 (by have := ok.p0p; omega) (by have := ok.p1p; have := hl.len; omega)
  unfold pTake at hw
  simp (maxSteps := 1000000) only [s60p, tb34p_e, zzK, seval]
  refine ⟨l, s, id, x, rfl, by simp, ok.at_, ?_⟩
  cases c : pIs l x s with
  | true =>
    have ok' := pIs_fin hl ok c
    rw [c, cond_true, wpR_ok] at hw
    simp (maxSteps := 1000000) only [pObj, w1, retD_ret, leav_nil, finD, tb34p_e, zzK, seval]
    exact mid_ret (x := true) (s' := pStep s) rfl (by simp [pObj, pStep]) (hw ok')
  | false =>
    rw [c, cond_false, wpR_ok] at hw
    simp (maxSteps := 1000000) only [retD_ret, leav_nil, finD, tb34p_e, zzK, seval]
    exact mid_ret (x := false) (s' := s) rfl (by simp) (hw ok)
def cTake (args : List D) (h : AHeap) (K E : D → AHeap → Prop) : Prop := ∃ (l : List Tok) (s : PS) (id : Nat) (x : List UInt8), args = [.ptr id 1 0, .str x] ∧ LOk l ∧ cP (pTake l x) D.bool l s id h K E
theorem cTake_mono (args : List D) (h : AHeap) (K E K' E' : D → AHeap → Prop) (hk : ∀ d h, K d h → K' d h) (he : ∀ d h, E d h → E' d h) (c : cTake args h K E) : cTake args h K' E' := by
  obtain ⟨l, s, id, x, a, b, c⟩ := c
  exact ⟨l, s, id, x, a, b, cP_mono hk he c⟩
theorem cTake_ok (args : List D) (h : AHeap) (K E : D → AHeap → Prop) (c : cTake args h K E) : ACalls Tryz.prog 60 args h (AOut.to K E) := by
  obtain ⟨l, s, id, x, rfl, hl, c⟩ := c
  exact cP_ok (fun ok K0 E0 hw => take_c l hl s id x ok K0 E0 hw) c
def tb60p : Tab := tb34p.addE 60 cTake cTake_mono
theorem tb60p_q : tb60p.q = tb34p.q := rfl
theorem tb60p_a : tb60p.a = tb34p.a := rfl
theorem tb60p_c (g : FuncId) (args : List D) (h : AHeap) (K E : D → AHeap → Prop) : tb60p.c g args h K E = if g = 60 then cTake args h K E else tb34p.c g args h K E := rfl
theorem tb60p_ok : tb60p.ok Tryz.prog := Tab.addE_ok tb34p_ok cTake_ok
theorem tb60p_e : type_of% (And.intro (And.intro @tb60p_q (And.intro @tb60p_a @tb60p_c)) @tb34p_e) := (And.intro (And.intro @tb60p_q (And.intro @tb60p_a @tb60p_c)) @tb34p_e)
theorem mid_pan {α : Type} {enc : α → D} {l : List Tok} {id : Nat} {K0 : α → PS → Prop} {E0 : Int → Int → Prop} {h : AHeap} {a e : Int} {s' : PS} (hid : h.f id = some (pObj l s')) (k : E0 a e) :
    ∃ h', h'.sub h ∧ retP enc l id K0 E0 (.panic (stopD a e)) h' := ⟨_, sub_one hid, a, e, s', rfl, rfl, k⟩
theorem must_c (l : List Tok) (hl : LOk l) (s : PS) (id : Nat) (x : List UInt8) (ok : PSok l s) (K0 : Unit → PS → Prop) (E0 : Int → Int → Prop) (hw : wpR (pMust l x s) (fun x s' => PSok l s' → K0 x s') E0) : ACalls Tryz.prog 63 [.ptr id 1 0, .str x] (AHeap.emp.set id (pObj l s)) (retP (fun _ => .tuple []) l id K0 E0) := by
  refine ACalls.of_stmD tb60p_ok (dc := DTab.none) (fun _ _ => DTab.none_ok) (by kernel_rfl) st63p (by simp) ?_
  rw [vc_todo]
  simp (maxSteps := 1000000) only [s63p, tb60p_e, zzK, seval]
  refine ⟨l, s, id, x, rfl, hl, by simp, ok, ?_⟩
  unfold pMust at hw
  unfold pTake
  cases c : pIs l x s with
  | true =>
    rw [c, cond_true, wpR_ok] at hw
    rw [cond_true, wpR_ok]
    intro ok'
    simp (maxSteps := 1000000) only [retD_normal, leav_nil, finD, tb60p_e, zzK, seval]
    exact mid_ret (x := ()) (s' := pStep s) rfl (by simp) (hw ok')
  | false =>
    rw [c, cond_false] at hw
    rw [cond_false, wpR_ok]
    intro _
    simp (maxSteps := 1000000) only [tb60p_e, zzK, seval]
    refine ⟨l, s, id, 110, rfl, by simp, ok.at_, ?_⟩
    simp only [panD, leav_nil, finD]
    exact mid_pan (s' := s) (by simp) hw
def cMust (args : List D) (h : AHeap) (K E : D → AHeap → Prop) : Prop := ∃ (l : List Tok) (s : PS) (id : Nat) (x : List UInt8), args = [.ptr id 1 0, .str x] ∧ LOk l ∧ cP (pMust l x) (fun _ => .tuple []) l s id h K E
theorem cMust_mono (args : List D) (h : AHeap) (K E K' E' : D → AHeap → Prop) (hk : ∀ d h, K d h → K' d h) (he : ∀ d h, E d h → E' d h) (c : cMust args h K E) : cMust args h K' E' := by
  obtain ⟨l, s, id, x, a, b, c⟩ := c
  exact ⟨l, s, id, x, a, b, cP_mono hk he c⟩
theorem cMust_ok (args : List D) (h : AHeap) (K E : D → AHeap → Prop) (c : cMust args h K E) : ACalls Tryz.prog 63 args h (AOut.to K E) := by
  obtain ⟨l, s, id, x, rfl, hl, c⟩ := c
  exact cP_ok (fun ok K0 E0 hw => must_c l hl s id x ok K0 E0 hw) c
def tb63p : Tab := tb60p.addE 63 cMust cMust_mono
theorem tb63p_q : tb63p.q = tb60p.q := rfl
theorem tb63p_a : tb63p.a = tb60p.a := rfl
theorem tb63p_c (g : FuncId) (args : List D) (h : AHeap) (K E : D → AHeap → Prop) : tb63p.c g args h K E = if g = 63 then cMust args h K E else tb60p.c g args h K E := rfl
theorem tb63p_ok : tb63p.ok Tryz.prog := Tab.addE_ok tb60p_ok cMust_ok
theorem tb63p_e : type_of% (And.intro (And.intro @tb63p_q (And.intro @tb63p_a @tb63p_c)) @tb60p_e) := (And.intro (And.intro @tb63p_q (And.intro @tb63p_a @tb63p_c)) @tb60p_e)
theorem name_c (l : List Tok) (hl : LOk l) (s : PS) (id : Nat) (ok : PSok l s) (K0 : List UInt8 → PS → Prop) (E0 : Int → Int → Prop) (hw : wpR (pName l s) (fun x s' => PSok l s' → K0 x s') E0) : ACalls Tryz.prog 61 [.ptr id 1 0] (AHeap.emp.set id (pObj l s)) (retP D.str l id K0 E0) := by
  refine ACalls.of_stmD tb63p_ok (dc := DTab.none) (fun _ _ => DTab.none_ok) (by kernel_rfl) st61p (by simp) ?_
  rw [vc_todo]
  have w1 : IntKind.i64.wrap (s.pos + 1) = s.pos + 1 := wrap_i64 (by have := ok.p0p; omega) (by have := ok.p1p; have := hl.len; omega)
  simp (maxSteps := 1000000) only [s61p, tb63p_e, zzK, seval]
  refine ⟨l, s, id, rfl, by simp, ok.at_, ?_⟩
  unfold pName at hw
  have hfin := hl.fin _ _ (pNow_get ok.at_)
  have hnow : ∀ (α : Type) (e : Int), (pFail l e s : PR α) = .fail (pNow l s).2.2 e := fun _ _ => rfl
  cases c : ((pNow l s).1 == 1) with
  | true =>
    have c' : ((pNow l s).1 != 1) = false := by simpa using c
    rw [c, cond_true, wpR_ok] at hw
    have ok' : PSok l (pStep s) := by
      have := hfin (by simp at c; omega)
      obtain ⟨h1, h2, h3, h4, h5, h6⟩ := ok
      exact ⟨by simp only [pStep]; omega, by simp only [pStep]; omega, h3, h4, h5, h6⟩
    have k := hw ok'
    generalize pNow l s = t at *
    obtain ⟨kk, y, a⟩ := t
    simp (maxSteps := 1000000) only [tokD, tb63p_e, zzK, seval]
    intro i2 n1 n2
    simp only at c c'
    simp (maxSteps := 1000000) only [pObj, c', n1, n2, w1, retD_ret, leav_nil, finD, tb63p_e, zzK, seval]
    exact mid_ret (x := y) (s' := pStep s) rfl (by simp [pObj, pStep, n1, n2]) k
  | false =>
    have c' : ((pNow l s).1 != 1) = true := by simpa using c
    rw [c, cond_false] at hw
    have hw' : E0 (pNow l s).2.2 110 := hw
    generalize ht : pNow l s = t at *
    obtain ⟨kk, y, a⟩ := t
    simp (maxSteps := 1000000) only [tokD, tb63p_e, zzK, seval]
    intro i2 n1 n2
    simp only at c c'
    simp (maxSteps := 1000000) only [c', n1, n2, tb63p_e, zzK, seval]
    refine ⟨l, s, id, 110, rfl, by simp [n1, n2], ok.at_, ?_⟩
    simp only [panD, leav_nil, finD]
    rw [ht]
    exact mid_pan (s' := s) (by simp [n1, n2]) hw'
def cName (args : List D) (h : AHeap) (K E : D → AHeap → Prop) : Prop := ∃ (l : List Tok) (s : PS) (id : Nat) , args = [.ptr id 1 0] ∧ LOk l ∧ cP (pName l) D.str l s id h K E
theorem cName_mono (args : List D) (h : AHeap) (K E K' E' : D → AHeap → Prop) (hk : ∀ d h, K d h → K' d h) (he : ∀ d h, E d h → E' d h) (c : cName args h K E) : cName args h K' E' := by
  obtain ⟨l, s, id, a, b, c⟩ := c
  exact ⟨l, s, id, a, b, cP_mono hk he c⟩
theorem cName_ok (args : List D) (h : AHeap) (K E : D → AHeap → Prop) (c : cName args h K E) : ACalls Tryz.prog 61 args h (AOut.to K E) := by
  obtain ⟨l, s, id, rfl, hl, c⟩ := c
  exact cP_ok (fun ok K0 E0 hw => name_c l hl s id  ok K0 E0 hw) c
def tb61p : Tab := tb63p.addE 61 cName cName_mono
theorem tb61p_q : tb61p.q = tb63p.q := rfl
theorem tb61p_a : tb61p.a = tb63p.a := rfl
theorem tb61p_c (g : FuncId) (args : List D) (h : AHeap) (K E : D → AHeap → Prop) : tb61p.c g args h K E = if g = 61 then cName args h K E else tb63p.c g args h K E := rfl
theorem tb61p_ok : tb61p.ok Tryz.prog := Tab.addE_ok tb63p_ok cName_ok
theorem tb61p_e : type_of% (And.intro (And.intro @tb61p_q (And.intro @tb61p_a @tb61p_c)) @tb63p_e) := (And.intro (And.intro @tb61p_q (And.intro @tb61p_a @tb61p_c)) @tb63p_e)
end
end Go.Proofs.YtpagdhbmbnoddaaGreatDoor.Zz
