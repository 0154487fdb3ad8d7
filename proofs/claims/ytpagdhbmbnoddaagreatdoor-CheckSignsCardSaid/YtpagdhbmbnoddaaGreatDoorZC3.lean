/- Contracts: what ends the look; signs. -/
import Derived.Test.YtpagdhbmbnoddaaGreatDoorZC0
import Derived.Test.YtpagdhbmbnoddaaGreatDoorZP1
set_option linter.unnecessarySimpa false
set_option linter.unusedVariables false
set_option linter.unusedSimpArgs false
set_option maxRecDepth 20000
namespace Go.Proofs.YtpagdhbmbnoddaaGreatDoor.Zz
noncomputable section
def p49c : Plan := ⟨⟨[], [(1, 1)], [], [], [], []⟩, [], [], false⟩
def s49c : Stm :=
 .seq (.ops [⟨.mov (.t 0), some 4, none, true⟩,
 ⟨.un .not (.t 4), some 5, none, true⟩])
 (.cond (.t 5)
 (.ops [⟨.mov (.t 1), some 6, none, true⟩,
 ⟨.call (.f 72) [(.t 6)], some 7, none, false⟩])
 (.skip))
theorem st49c : stmOf Tryz.prog 49 p49c = some (s49c, [], 8) := by kernel_rfl
def p72c : Plan := ⟨⟨[], [], [], [], [], []⟩, [], [], false⟩
def s72c : Stm :=
 .ops [⟨.mov (.t 0), some 2, none, true⟩,
 ⟨.build [(.int .i64 0)] [(0, 1, (.t 2))], some 3, none, true⟩,
 ⟨.mkIface 88 (.t 3), some 4, none, true⟩,
 ⟨.panic (.t 4), none, none, false⟩]
theorem st72c : stmOf Tryz.prog 72 p72c = some (s72c, [], 5) := by kernel_rfl
def p73c : Plan := ⟨⟨[], [(1, 5)], [], [], [], []⟩, [], [], false⟩
def s73c : Stm :=
 .seq (.ops [⟨.box (.t 0), some 2, none, false⟩])
 (.ops [⟨.fieldAddr 4 (.t 2), some 4, none, true⟩,
 ⟨.load none (.t 4), some 5, none, false⟩,
 ⟨.len .sl (.t 5), some 6, none, false⟩,
 ⟨.mov (.t 1), some 7, none, true⟩,
 ⟨.bin .eql (.t 6) (.t 7), some 8, none, true⟩,
 ⟨.call (.f 49) [(.t 8), (.c (.int .i64 125))], some 9, none, false⟩])
theorem st73c : stmOf Tryz.prog 73 p73c = some (s73c, [], 10) := by kernel_rfl
def p125c : Plan := ⟨⟨[], [], [], [], [], []⟩, [], [], false⟩
def s125c : Stm :=
 .seq (.ops [⟨.mov (.c (.bool false)), some 2, none, true⟩])
 (.seq (.ops [⟨.mov (.t 0), some 3, none, true⟩,
 ⟨.bin .eql (.t 3) (.c (.int .i64 1)), some 4, none, true⟩,
 ⟨.mov (.t 4), some 5, none, true⟩,
 ⟨.mov (.t 0), some 6, (some (5, false)), true⟩,
 ⟨.bin .eql (.t 6) (.c (.int .i64 2)), some 7, (some (5, false)), true⟩,
 ⟨.pick (.t 5) (.c (.bool true)) (.t 7), some 8, none, true⟩,
 ⟨.mov (.t 8), some 2, none, true⟩])
 (.ret))
theorem st125c : stmOf Tryz.prog 125 p125c = some (s125c, [.tmp 2], 9) := by kernel_rfl
def p126c : Plan := ⟨⟨[], [(1, 3), (8, 2), (11, 2), (17, 2), (20, 2), (3, 6)], [], [], [], []⟩, [], [], false⟩
def s126c : Stm :=
 .seq (.ops [⟨.mov (.c (.int .i64 0)), some 6, none, true⟩])
 (.seq (.ops [⟨.mov (.t 1), some 7, none, true⟩,
 ⟨.mov (.t 2), some 8, none, true⟩,
 ⟨.bin .eql (.t 7) (.t 8), some 9, none, true⟩,
 ⟨.call (.f 49) [(.t 9), (.c (.int .i64 122))], some 10, none, false⟩])
 (.seq (.seq (.ops [⟨.mov (.t 0), some 11, none, true⟩])
 (.block 0 (.seq (.seq (.ops [⟨.bin .eql (.t 11) (.c (.str [43])), some 20, none, true⟩,
 ⟨.mov (.t 20), some 19, none, true⟩])
 (.cond (.t 19)
 (.skip)
 (.seq (.ops [⟨.bin .eql (.t 11) (.c (.str [45])), some 21, none, true⟩,
 ⟨.mov (.t 21), some 19, none, true⟩])
 (.cond (.t 19)
 (.skip)
 (.seq (.ops [⟨.bin .eql (.t 11) (.c (.str [42])), some 22, none, true⟩,
 ⟨.mov (.t 22), some 19, none, true⟩])
 (.cond (.t 19)
 (.skip)
 (.ops [⟨.bin .eql (.t 11) (.c (.str [47])), some 23, none, true⟩,
 ⟨.mov (.t 23), some 19, none, true⟩])))))))
 (.cond (.t 19)
 (.seq (.ops [⟨.mov (.t 1), some 24, none, true⟩,
 ⟨.qcall (.f 125) [(.t 24)], some 25, none, false⟩,
 ⟨.call (.f 49) [(.t 25), (.c (.int .i64 122))], some 26, none, false⟩])
 (.seq (.ops [⟨.mov (.t 1), some 27, none, true⟩,
 ⟨.mov (.t 27), some 6, none, true⟩])
 (.ret)))
 (.seq (.ops [⟨.bin .eql (.t 11) (.c (.str [37])), some 29, none, true⟩,
 ⟨.mov (.t 29), some 28, none, true⟩])
 (.cond (.t 28)
 (.seq (.ops [⟨.mov (.t 1), some 30, none, true⟩,
 ⟨.bin .eql (.t 30) (.c (.int .i64 1)), some 31, none, true⟩,
 ⟨.call (.f 49) [(.t 31), (.c (.int .i64 122))], some 32, none, false⟩])
 (.seq (.ops [⟨.mov (.t 1), some 33, none, true⟩,
 ⟨.mov (.t 33), some 6, none, true⟩])
 (.ret)))
 (.seq (.seq (.ops [⟨.bin .eql (.t 11) (.c (.str [60])), some 35, none, true⟩,
 ⟨.mov (.t 35), some 34, none, true⟩])
 (.cond (.t 34)
 (.skip)
 (.seq (.ops [⟨.bin .eql (.t 11) (.c (.str [60, 61])), some 36, none, true⟩,
 ⟨.mov (.t 36), some 34, none, true⟩])
 (.cond (.t 34)
 (.skip)
 (.seq (.ops [⟨.bin .eql (.t 11) (.c (.str [62])), some 37, none, true⟩,
 ⟨.mov (.t 37), some 34, none, true⟩])
 (.cond (.t 34)
 (.skip)
 (.ops [⟨.bin .eql (.t 11) (.c (.str [62, 61])), some 38, none, true⟩,
 ⟨.mov (.t 38), some 34, none, true⟩])))))))
 (.cond (.t 34)
 (.ops [⟨.mov (.t 1), some 39, none, true⟩,
 ⟨.qcall (.f 125) [(.t 39)], some 40, none, false⟩,
 ⟨.call (.f 49) [(.t 40), (.c (.int .i64 122))], some 41, none, false⟩])
 (.seq (.seq (.ops [⟨.bin .eql (.t 11) (.c (.str [38, 38])), some 43, none, true⟩,
 ⟨.mov (.t 43), some 42, none, true⟩])
 (.cond (.t 42)
 (.skip)
 (.ops [⟨.bin .eql (.t 11) (.c (.str [124, 124])), some 44, none, true⟩,
 ⟨.mov (.t 44), some 42, none, true⟩])))
 (.cond (.t 42)
 (.ops [⟨.mov (.t 1), some 45, none, true⟩,
 ⟨.bin .eql (.t 45) (.c (.int .i64 3)), some 46, none, true⟩,
 ⟨.call (.f 49) [(.t 46), (.c (.int .i64 122))], some 47, none, false⟩])
 (.ops [⟨.mov (.t 0), some 12, none, true⟩,
 ⟨.bin .eql (.t 12) (.c (.str [61, 61])), some 13, none, true⟩,
 ⟨.mov (.t 13), some 14, none, true⟩,
 ⟨.mov (.t 0), some 15, (some (14, false)), true⟩,
 ⟨.bin .eql (.t 15) (.c (.str [33, 61])), some 16, (some (14, false)), true⟩,
 ⟨.pick (.t 14) (.c (.bool true)) (.t 16), some 17, none, true⟩,
 ⟨.call (.f 49) [(.t 17), (.c (.int .i64 125))], some 18, none, false⟩])))))))))))
 (.seq (.ops [⟨.mov (.c (.int .i64 3)), some 6, none, true⟩])
 (.ret))))
theorem st126c : stmOf Tryz.prog 126 p126c = some (s126c, [.tmp 6], 48) := by kernel_rfl
def faultD (e : Int) : D := .iface 88 (.agg [.int .i64 e])
def crP (K E : D → AHeap → Prop) (h : AHeap) : Option (CR D) → Prop
  | some (.ok d) => K d h
  | some (.error e) => E (faultD e) h
  | none => False
theorem crP_ok (K E : D → AHeap → Prop) (h : AHeap) (d : D) : crP K E h (some (.ok d)) = K d h := rfl
theorem crP_err (K E : D → AHeap → Prop) (h : AHeap) (e : Int) : crP K E h (some (.error e)) = E (faultD e) h := rfl
theorem crP_mono {K E K' E' : D → AHeap → Prop} {h : AHeap} {r : Option (CR D)} (hk : ∀ d h, K d h → K' d h) (he : ∀ d h, E d h → E' d h) (c : crP K E h r) : crP K' E' h r := by
  match r, c with
  | some (.ok d), c => exact hk _ _ c
  | some (.error e), c => exact he _ _ c
def q72c : List D → Option (CR D)
  | [.int .i64 e] => some (.error e)
  | _ => none
def cFl (args : List D) (h : AHeap) (K E : D → AHeap → Prop) : Prop := crP K E h (q72c args)
theorem cFl_mono (args : List D) (h : AHeap) (K E K' E' : D → AHeap → Prop) (hk : ∀ d h, K d h → K' d h) (he : ∀ d h, E d h → E' d h) (c : cFl args h K E) : cFl args h K' E' := crP_mono hk he c
theorem cFl_ok (args : List D) (h : AHeap) (K E : D → AHeap → Prop) (c : cFl args h K E) : ACalls Tryz.prog 72 args h (AOut.to K E) := by
  unfold cFl q72c at c
  split at c
  · rename_i e
    refine ACalls.of_stmD (Tab.zero_ok _) (dc := DTab.none) (fun _ _ => DTab.none_ok) (by kernel_rfl) st72c (by simp) ?_
    rw [vc_todo]
    simp (maxSteps := 1000000) only [s72c, i_panic, panD, leav_nil, finD, zzK, seval]
    first | exact ⟨h, AHeap.sub_refl h, c⟩ | exact .inl ⟨h, AHeap.sub_refl h, c⟩
  · exact c.elim
def tb72c : Tab := Tab.zero.addE 72 cFl cFl_mono
theorem tb72c_q : tb72c.q = Tab.zero.q := rfl
theorem tb72c_a : tb72c.a = Tab.zero.a := rfl
theorem tb72c_c (g : FuncId) (args : List D) (h : AHeap) (K E : D → AHeap → Prop) : tb72c.c g args h K E = if g = 72 then cFl args h K E else Tab.zero.c g args h K E := rfl
theorem tb72c_ok : tb72c.ok Tryz.prog := Tab.addE_ok (Tab.zero_ok _) cFl_ok
theorem tb72c_e : type_of% (And.intro @tb72c_q (And.intro @tb72c_a @tb72c_c)) := (And.intro @tb72c_q (And.intro @tb72c_a @tb72c_c))
def q49c : List D → Option (CR D)
  | [.bool b, .int .i64 e] => some (bif b then .ok (.tuple []) else .error e)
  | _ => none
def cNeed (args : List D) (h : AHeap) (K E : D → AHeap → Prop) : Prop := crP K E h (q49c args)
theorem cNeed_mono (args : List D) (h : AHeap) (K E K' E' : D → AHeap → Prop) (hk : ∀ d h, K d h → K' d h) (he : ∀ d h, E d h → E' d h) (c : cNeed args h K E) : cNeed args h K' E' := crP_mono hk he c
theorem cNeed_ok (args : List D) (h : AHeap) (K E : D → AHeap → Prop) (c : cNeed args h K E) : ACalls Tryz.prog 49 args h (AOut.to K E) := by
  unfold cNeed q49c at c
  split at c
  · rename_i b e
    refine ACalls.of_stmD tb72c_ok (dc := DTab.none) (fun _ _ => DTab.none_ok) (by kernel_rfl) st49c (by simp) ?_
    rw [vc_todo]
    cases b with
    | true =>
      simp (maxSteps := 1000000) only [s49c, retD_normal, leav_nil, finD, tb72c_e, zzK, seval]
      exact .inl ⟨h, AHeap.sub_refl h, c⟩
    | false =>
      simp (maxSteps := 1000000) only [s49c, cFl, q72c, crP_err, panD, leav_nil, finD, tb72c_e, zzK, seval]
      first | exact ⟨h, AHeap.sub_refl h, c⟩ | exact .inl ⟨h, AHeap.sub_refl h, c⟩
  · exact c.elim
def tb49c : Tab := tb72c.addE 49 cNeed cNeed_mono
theorem tb49c_q : tb49c.q = tb72c.q := rfl
theorem tb49c_a : tb49c.a = tb72c.a := rfl
theorem tb49c_c (g : FuncId) (args : List D) (h : AHeap) (K E : D → AHeap → Prop) : tb49c.c g args h K E = if g = 49 then cNeed args h K E else tb72c.c g args h K E := rfl
theorem tb49c_ok : tb49c.ok Tryz.prog := Tab.addE_ok tb72c_ok cNeed_ok
theorem tb49c_e : type_of% (And.intro (And.intro @tb49c_q (And.intro @tb49c_a @tb49c_c)) @tb72c_e) := (And.intro (And.intro @tb49c_q (And.intro @tb49c_a @tb49c_c)) @tb72c_e)
theorem number_c (t : Int) : PCall Tryz.prog 125 [.int .i64 t] (.bool (numT t)) := by
  refine PCall.run (Tab.zero_ok _) st125c (by simp) fun E => ?_
  unfold numT
  cases c1c : (t == 1) <;> cases c2c : (t == 2)
  all_goals simp (maxSteps := 1000000) only [s125c, c1c, c2c, zzK, seval]
def q125c : List D → Option D
  | [.int .i64 t] => some (.bool (numT t))
  | _ => none
theorem q125c_ok (args : List D) (d : D) (h : q125c args = some d) : PCall Tryz.prog 125 args d := by
  unfold q125c at h
  split at h
  · cases h; exact number_c _
  · cases h
def tb125c : Tab := tb49c.addQ 125 q125c
theorem tb125c_q (g : FuncId) (args : List D) : tb125c.q g args = if g = 125 then q125c args else tb49c.q g args := rfl
theorem tb125c_a : tb125c.a = tb49c.a := rfl
theorem tb125c_c : tb125c.c = tb49c.c := rfl
theorem tb125c_ok : tb125c.ok Tryz.prog := Tab.addQ_ok tb49c_ok q125c_ok
theorem tb125c_e : type_of% (And.intro (And.intro @tb125c_q (And.intro @tb125c_a @tb125c_c)) @tb49c_e) := (And.intro (And.intro @tb125c_q (And.intro @tb125c_a @tb125c_c)) @tb49c_e)
theorem sub_fr {h : AHeap} {i : Nat} {o : AObj} (n : h.f i = none) : h.sub (h.set i o) := fun q p hp => by
  have : q ≠ i := fun e => by subst e; rw [n] at hp; cases hp
  simp [this, hp]
def cKids (args : List D) (h : AHeap) (K E : D → AHeap → Prop) : Prop := ∃ (x : Nd) (k : Int), args = [.agg x.enc, .int .i64 k] ∧ (bif (x.lD.length : Int) == k then K (.tuple []) h else E (faultD 125) h)
theorem cKids_mono (args : List D) (h : AHeap) (K E K' E' : D → AHeap → Prop) (hk : ∀ d h, K d h → K' d h) (he : ∀ d h, E d h → E' d h) (c : cKids args h K E) : cKids args h K' E' := by
  obtain ⟨x, k, a, b⟩ := c
  refine ⟨x, k, a, ?_⟩
  cases hc : ((x.lD.length : Int) == k) with
  | true => rw [hc] at b; exact hk _ _ b
  | false => rw [hc] at b; exact he _ _ b
theorem cKids_ok (args : List D) (h : AHeap) (K E : D → AHeap → Prop) (c : cKids args h K E) : ACalls Tryz.prog 73 args h (AOut.to K E) := by
  obtain ⟨x, k, rfl, b⟩ := c
  obtain ⟨kk, t, s, n, l⟩ := x
  refine ACalls.of_stmD tb125c_ok (dc := DTab.none) (fun _ _ => DTab.none_ok) (by kernel_rfl) st73c (by simp) ?_
  rw [vc_todo]
  simp (maxSteps := 1000000) only [s73c, enc_mk, len_encs, tb125c_e, zzK, seval]
  intro i1 n1 hlen
  simp only [Nd.lD] at b
  cases hc : ((l.length : Int) == k) with
  | true =>
    rw [hc] at b
    simp (maxSteps := 1000000) only [hc, cNeed, q49c, crP_ok, cond_true, retD_normal, leav_nil, finD, tb125c_e, zzK, seval]
    exact .inl ⟨h, sub_fr n1, b⟩
  | false =>
    rw [hc] at b
    simp (maxSteps := 1000000) only [hc, cNeed, q49c, crP_err, cond_false, panD, leav_nil, finD, tb125c_e, zzK, seval]
    exact ⟨h, sub_fr n1, b⟩
def tb73c : Tab := tb125c.addE 73 cKids cKids_mono
theorem tb73c_q : tb73c.q = tb125c.q := rfl
theorem tb73c_a : tb73c.a = tb125c.a := rfl
theorem tb73c_c (g : FuncId) (args : List D) (h : AHeap) (K E : D → AHeap → Prop) : tb73c.c g args h K E = if g = 73 then cKids args h K E else tb125c.c g args h K E := rfl
theorem tb73c_ok : tb73c.ok Tryz.prog := Tab.addE_ok tb125c_ok cKids_ok
theorem tb73c_e : type_of% (And.intro (And.intro @tb73c_q (And.intro @tb73c_a @tb73c_c)) @tb125c_e) := (And.intro (And.intro @tb73c_q (And.intro @tb73c_a @tb73c_c)) @tb125c_e)
def crR (r : CR Int) : CR D := match r with
  | .ok t => .ok (.int .i64 t)
  | .error e => .error e
def q126c : List D → Option (CR D)
  | [.str s, .int .i64 a, .int .i64 b] => some (crR (binF s a b))
  | _ => none
def cBin (args : List D) (h : AHeap) (K E : D → AHeap → Prop) : Prop := crP K E h (q126c args)
theorem cBin_mono (args : List D) (h : AHeap) (K E K' E' : D → AHeap → Prop) (hk : ∀ d h, K d h → K' d h) (he : ∀ d h, E d h → E' d h) (c : cBin args h K E) : cBin args h K' E' := crP_mono hk he c
theorem crR_ok (t : Int) : crR (.ok t) = .ok (.int .i64 t) := rfl
theorem crR_err (e : Int) : crR (.error e) = .error e := rfl
theorem cBin_ok (args : List D) (h : AHeap) (K E : D → AHeap → Prop) (c : cBin args h K E) : ACalls Tryz.prog 126 args h (AOut.to K E) := by
  unfold cBin q126c at c
  split at c
  · rename_i s a b
    refine ACalls.of_stmD tb73c_ok (dc := DTab.none) (fun _ _ => DTab.none_ok) (by kernel_rfl) st126c (by simp) ?_
    rw [vc_todo]
    unfold binF at c
    cases c0c : (a == b)
    · rw [if_neg (by simp [c0c]), crR_err, crP_err] at c
      simp (maxSteps := 1000000) only [s126c, c0c, cNeed, q49c, crP_err, cond_false, panD, leav_nil, finD, tb73c_e, zzK, seval]
      first | exact ⟨h, AHeap.sub_refl h, c⟩ | exact .inl ⟨h, AHeap.sub_refl h, c⟩
    · rw [if_pos (by simp [c0c])] at c
      cases c1c : (s == ([43] : List UInt8)) with
      | true =>
        cases d : (numT a)
        · simp only [c1c, d, Bool.or_true, Bool.true_or, Bool.or_false, Bool.false_or, Bool.false_eq_true, if_true, if_false, crR_ok, crR_err, crP_ok, crP_err] at c
          simp (maxSteps := 1000000) only [c1c, c0c, s126c, d, cNeed, q49c, crP_ok, crP_err, q125c, cond_true, cond_false, retD_ret, panD, leav_nil, finD, tb73c_e, zzK, seval]
          first | exact ⟨h, AHeap.sub_refl h, c⟩ | exact .inl ⟨h, AHeap.sub_refl h, c⟩
        · simp only [c1c, d, Bool.or_true, Bool.true_or, Bool.or_false, Bool.false_or, Bool.false_eq_true, if_true, if_false, crR_ok, crR_err, crP_ok, crP_err] at c
          simp (maxSteps := 1000000) only [c1c, c0c, s126c, d, cNeed, q49c, crP_ok, crP_err, q125c, cond_true, cond_false, retD_ret, panD, leav_nil, finD, tb73c_e, zzK, seval]
          first | exact ⟨h, AHeap.sub_refl h, c⟩ | exact .inl ⟨h, AHeap.sub_refl h, c⟩
      | false =>
      cases c2c : (s == ([45] : List UInt8)) with
      | true =>
        cases d : (numT a)
        · simp only [c1c, c2c, d, Bool.or_true, Bool.true_or, Bool.or_false, Bool.false_or, Bool.false_eq_true, if_true, if_false, crR_ok, crR_err, crP_ok, crP_err] at c
          simp (maxSteps := 1000000) only [c1c, c2c, c0c, s126c, d, cNeed, q49c, crP_ok, crP_err, q125c, cond_true, cond_false, retD_ret, panD, leav_nil, finD, tb73c_e, zzK, seval]
          first | exact ⟨h, AHeap.sub_refl h, c⟩ | exact .inl ⟨h, AHeap.sub_refl h, c⟩
        · simp only [c1c, c2c, d, Bool.or_true, Bool.true_or, Bool.or_false, Bool.false_or, Bool.false_eq_true, if_true, if_false, crR_ok, crR_err, crP_ok, crP_err] at c
          simp (maxSteps := 1000000) only [c1c, c2c, c0c, s126c, d, cNeed, q49c, crP_ok, crP_err, q125c, cond_true, cond_false, retD_ret, panD, leav_nil, finD, tb73c_e, zzK, seval]
          first | exact ⟨h, AHeap.sub_refl h, c⟩ | exact .inl ⟨h, AHeap.sub_refl h, c⟩
      | false =>
      cases c3c : (s == ([42] : List UInt8)) with
      | true =>
        cases d : (numT a)
        · simp only [c1c, c2c, c3c, d, Bool.or_true, Bool.true_or, Bool.or_false, Bool.false_or, Bool.false_eq_true, if_true, if_false, crR_ok, crR_err, crP_ok, crP_err] at c
          simp (maxSteps := 1000000) only [c1c, c2c, c3c, c0c, s126c, d, cNeed, q49c, crP_ok, crP_err, q125c, cond_true, cond_false, retD_ret, panD, leav_nil, finD, tb73c_e, zzK, seval]
          first | exact ⟨h, AHeap.sub_refl h, c⟩ | exact .inl ⟨h, AHeap.sub_refl h, c⟩
        · simp only [c1c, c2c, c3c, d, Bool.or_true, Bool.true_or, Bool.or_false, Bool.false_or, Bool.false_eq_true, if_true, if_false, crR_ok, crR_err, crP_ok, crP_err] at c
          simp (maxSteps := 1000000) only [c1c, c2c, c3c, c0c, s126c, d, cNeed, q49c, crP_ok, crP_err, q125c, cond_true, cond_false, retD_ret, panD, leav_nil, finD, tb73c_e, zzK, seval]
          first | exact ⟨h, AHeap.sub_refl h, c⟩ | exact .inl ⟨h, AHeap.sub_refl h, c⟩
      | false =>
      cases c4c : (s == ([47] : List UInt8)) with
      | true =>
        cases d : (numT a)
        · simp only [c1c, c2c, c3c, c4c, d, Bool.or_true, Bool.true_or, Bool.or_false, Bool.false_or, Bool.false_eq_true, if_true, if_false, crR_ok, crR_err, crP_ok, crP_err] at c
          simp (maxSteps := 1000000) only [c1c, c2c, c3c, c4c, c0c, s126c, d, cNeed, q49c, crP_ok, crP_err, q125c, cond_true, cond_false, retD_ret, panD, leav_nil, finD, tb73c_e, zzK, seval]
          first | exact ⟨h, AHeap.sub_refl h, c⟩ | exact .inl ⟨h, AHeap.sub_refl h, c⟩
        · simp only [c1c, c2c, c3c, c4c, d, Bool.or_true, Bool.true_or, Bool.or_false, Bool.false_or, Bool.false_eq_true, if_true, if_false, crR_ok, crR_err, crP_ok, crP_err] at c
          simp (maxSteps := 1000000) only [c1c, c2c, c3c, c4c, c0c, s126c, d, cNeed, q49c, crP_ok, crP_err, q125c, cond_true, cond_false, retD_ret, panD, leav_nil, finD, tb73c_e, zzK, seval]
          first | exact ⟨h, AHeap.sub_refl h, c⟩ | exact .inl ⟨h, AHeap.sub_refl h, c⟩
      | false =>
      cases c5c : (s == ([37] : List UInt8)) with
      | true =>
        cases d : (a == 1)
        · simp only [c1c, c2c, c3c, c4c, c5c, d, Bool.or_true, Bool.true_or, Bool.or_false, Bool.false_or, Bool.false_eq_true, if_true, if_false, crR_ok, crR_err, crP_ok, crP_err] at c
          simp (maxSteps := 1000000) only [c1c, c2c, c3c, c4c, c5c, c0c, s126c, d, cNeed, q49c, crP_ok, crP_err, q125c, cond_true, cond_false, retD_ret, panD, leav_nil, finD, tb73c_e, zzK, seval]
          first | exact ⟨h, AHeap.sub_refl h, c⟩ | exact .inl ⟨h, AHeap.sub_refl h, c⟩
        · simp only [c1c, c2c, c3c, c4c, c5c, d, Bool.or_true, Bool.true_or, Bool.or_false, Bool.false_or, Bool.false_eq_true, if_true, if_false, crR_ok, crR_err, crP_ok, crP_err] at c
          simp (maxSteps := 1000000) only [c1c, c2c, c3c, c4c, c5c, c0c, s126c, d, cNeed, q49c, crP_ok, crP_err, q125c, cond_true, cond_false, retD_ret, panD, leav_nil, finD, tb73c_e, zzK, seval]
          first | exact ⟨h, AHeap.sub_refl h, c⟩ | exact .inl ⟨h, AHeap.sub_refl h, c⟩
      | false =>
      cases c6c : (s == ([60] : List UInt8)) with
      | true =>
        cases d : (numT a)
        · simp only [c1c, c2c, c3c, c4c, c5c, c6c, d, Bool.or_true, Bool.true_or, Bool.or_false, Bool.false_or, Bool.false_eq_true, if_true, if_false, crR_ok, crR_err, crP_ok, crP_err] at c
          simp (maxSteps := 1000000) only [c1c, c2c, c3c, c4c, c5c, c6c, c0c, s126c, d, cNeed, q49c, crP_ok, crP_err, q125c, cond_true, cond_false, retD_ret, panD, leav_nil, finD, tb73c_e, zzK, seval]
          first | exact ⟨h, AHeap.sub_refl h, c⟩ | exact .inl ⟨h, AHeap.sub_refl h, c⟩
        · simp only [c1c, c2c, c3c, c4c, c5c, c6c, d, Bool.or_true, Bool.true_or, Bool.or_false, Bool.false_or, Bool.false_eq_true, if_true, if_false, crR_ok, crR_err, crP_ok, crP_err] at c
          simp (maxSteps := 1000000) only [c1c, c2c, c3c, c4c, c5c, c6c, c0c, s126c, d, cNeed, q49c, crP_ok, crP_err, q125c, cond_true, cond_false, retD_ret, panD, leav_nil, finD, tb73c_e, zzK, seval]
          first | exact ⟨h, AHeap.sub_refl h, c⟩ | exact .inl ⟨h, AHeap.sub_refl h, c⟩
      | false =>
      cases c7c : (s == ([60, 61] : List UInt8)) with
      | true =>
        cases d : (numT a)
        · simp only [c1c, c2c, c3c, c4c, c5c, c6c, c7c, d, Bool.or_true, Bool.true_or, Bool.or_false, Bool.false_or, Bool.false_eq_true, if_true, if_false, crR_ok, crR_err, crP_ok, crP_err] at c
          simp (maxSteps := 1000000) only [c1c, c2c, c3c, c4c, c5c, c6c, c7c, c0c, s126c, d, cNeed, q49c, crP_ok, crP_err, q125c, cond_true, cond_false, retD_ret, panD, leav_nil, finD, tb73c_e, zzK, seval]
          first | exact ⟨h, AHeap.sub_refl h, c⟩ | exact .inl ⟨h, AHeap.sub_refl h, c⟩
        · simp only [c1c, c2c, c3c, c4c, c5c, c6c, c7c, d, Bool.or_true, Bool.true_or, Bool.or_false, Bool.false_or, Bool.false_eq_true, if_true, if_false, crR_ok, crR_err, crP_ok, crP_err] at c
          simp (maxSteps := 1000000) only [c1c, c2c, c3c, c4c, c5c, c6c, c7c, c0c, s126c, d, cNeed, q49c, crP_ok, crP_err, q125c, cond_true, cond_false, retD_ret, panD, leav_nil, finD, tb73c_e, zzK, seval]
          first | exact ⟨h, AHeap.sub_refl h, c⟩ | exact .inl ⟨h, AHeap.sub_refl h, c⟩
      | false =>
      cases c8c : (s == ([62] : List UInt8)) with
      | true =>
        cases d : (numT a)
        · simp only [c1c, c2c, c3c, c4c, c5c, c6c, c7c, c8c, d, Bool.or_true, Bool.true_or, Bool.or_false, Bool.false_or, Bool.false_eq_true, if_true, if_false, crR_ok, crR_err, crP_ok, crP_err] at c
          simp (maxSteps := 1000000) only [c1c, c2c, c3c, c4c, c5c, c6c, c7c, c8c, c0c, s126c, d, cNeed, q49c, crP_ok, crP_err, q125c, cond_true, cond_false, retD_ret, panD, leav_nil, finD, tb73c_e, zzK, seval]
          first | exact ⟨h, AHeap.sub_refl h, c⟩ | exact .inl ⟨h, AHeap.sub_refl h, c⟩
        · simp only [c1c, c2c, c3c, c4c, c5c, c6c, c7c, c8c, d, Bool.or_true, Bool.true_or, Bool.or_false, Bool.false_or, Bool.false_eq_true, if_true, if_false, crR_ok, crR_err, crP_ok, crP_err] at c
          simp (maxSteps := 1000000) only [c1c, c2c, c3c, c4c, c5c, c6c, c7c, c8c, c0c, s126c, d, cNeed, q49c, crP_ok, crP_err, q125c, cond_true, cond_false, retD_ret, panD, leav_nil, finD, tb73c_e, zzK, seval]
          first | exact ⟨h, AHeap.sub_refl h, c⟩ | exact .inl ⟨h, AHeap.sub_refl h, c⟩
      | false =>
      cases c9c : (s == ([62, 61] : List UInt8)) with
      | true =>
        cases d : (numT a)
        · simp only [c1c, c2c, c3c, c4c, c5c, c6c, c7c, c8c, c9c, d, Bool.or_true, Bool.true_or, Bool.or_false, Bool.false_or, Bool.false_eq_true, if_true, if_false, crR_ok, crR_err, crP_ok, crP_err] at c
          simp (maxSteps := 1000000) only [c1c, c2c, c3c, c4c, c5c, c6c, c7c, c8c, c9c, c0c, s126c, d, cNeed, q49c, crP_ok, crP_err, q125c, cond_true, cond_false, retD_ret, panD, leav_nil, finD, tb73c_e, zzK, seval]
          first | exact ⟨h, AHeap.sub_refl h, c⟩ | exact .inl ⟨h, AHeap.sub_refl h, c⟩
        · simp only [c1c, c2c, c3c, c4c, c5c, c6c, c7c, c8c, c9c, d, Bool.or_true, Bool.true_or, Bool.or_false, Bool.false_or, Bool.false_eq_true, if_true, if_false, crR_ok, crR_err, crP_ok, crP_err] at c
          simp (maxSteps := 1000000) only [c1c, c2c, c3c, c4c, c5c, c6c, c7c, c8c, c9c, c0c, s126c, d, cNeed, q49c, crP_ok, crP_err, q125c, cond_true, cond_false, retD_ret, panD, leav_nil, finD, tb73c_e, zzK, seval]
          first | exact ⟨h, AHeap.sub_refl h, c⟩ | exact .inl ⟨h, AHeap.sub_refl h, c⟩
      | false =>
      cases c10c : (s == ([38, 38] : List UInt8)) with
      | true =>
        cases d : (a == 3)
        · simp only [c1c, c2c, c3c, c4c, c5c, c6c, c7c, c8c, c9c, c10c, d, Bool.or_true, Bool.true_or, Bool.or_false, Bool.false_or, Bool.false_eq_true, if_true, if_false, crR_ok, crR_err, crP_ok, crP_err] at c
          simp (maxSteps := 1000000) only [c1c, c2c, c3c, c4c, c5c, c6c, c7c, c8c, c9c, c10c, c0c, s126c, d, cNeed, q49c, crP_ok, crP_err, q125c, cond_true, cond_false, retD_ret, panD, leav_nil, finD, tb73c_e, zzK, seval]
          first | exact ⟨h, AHeap.sub_refl h, c⟩ | exact .inl ⟨h, AHeap.sub_refl h, c⟩
        · simp only [c1c, c2c, c3c, c4c, c5c, c6c, c7c, c8c, c9c, c10c, d, Bool.or_true, Bool.true_or, Bool.or_false, Bool.false_or, Bool.false_eq_true, if_true, if_false, crR_ok, crR_err, crP_ok, crP_err] at c
          simp (maxSteps := 1000000) only [c1c, c2c, c3c, c4c, c5c, c6c, c7c, c8c, c9c, c10c, c0c, s126c, d, cNeed, q49c, crP_ok, crP_err, q125c, cond_true, cond_false, retD_ret, panD, leav_nil, finD, tb73c_e, zzK, seval]
          first | exact ⟨h, AHeap.sub_refl h, c⟩ | exact .inl ⟨h, AHeap.sub_refl h, c⟩
      | false =>
      cases c11c : (s == ([124, 124] : List UInt8)) with
      | true =>
        cases d : (a == 3)
        · simp only [c1c, c2c, c3c, c4c, c5c, c6c, c7c, c8c, c9c, c10c, c11c, d, Bool.or_true, Bool.true_or, Bool.or_false, Bool.false_or, Bool.false_eq_true, if_true, if_false, crR_ok, crR_err, crP_ok, crP_err] at c
          simp (maxSteps := 1000000) only [c1c, c2c, c3c, c4c, c5c, c6c, c7c, c8c, c9c, c10c, c11c, c0c, s126c, d, cNeed, q49c, crP_ok, crP_err, q125c, cond_true, cond_false, retD_ret, panD, leav_nil, finD, tb73c_e, zzK, seval]
          first | exact ⟨h, AHeap.sub_refl h, c⟩ | exact .inl ⟨h, AHeap.sub_refl h, c⟩
        · simp only [c1c, c2c, c3c, c4c, c5c, c6c, c7c, c8c, c9c, c10c, c11c, d, Bool.or_true, Bool.true_or, Bool.or_false, Bool.false_or, Bool.false_eq_true, if_true, if_false, crR_ok, crR_err, crP_ok, crP_err] at c
          simp (maxSteps := 1000000) only [c1c, c2c, c3c, c4c, c5c, c6c, c7c, c8c, c9c, c10c, c11c, c0c, s126c, d, cNeed, q49c, crP_ok, crP_err, q125c, cond_true, cond_false, retD_ret, panD, leav_nil, finD, tb73c_e, zzK, seval]
          first | exact ⟨h, AHeap.sub_refl h, c⟩ | exact .inl ⟨h, AHeap.sub_refl h, c⟩
      | false =>
      cases c12c : (s == ([61, 61] : List UInt8)) with
      | true =>
        simp only [c1c, c2c, c3c, c4c, c5c, c6c, c7c, c8c, c9c, c10c, c11c, c12c, Bool.or_true, Bool.true_or, Bool.or_false, Bool.false_or, Bool.false_eq_true, if_true, if_false, crR_ok, crR_err, crP_ok, crP_err] at c
        simp (maxSteps := 1000000) only [c1c, c2c, c3c, c4c, c5c, c6c, c7c, c8c, c9c, c10c, c11c, c12c, c0c, s126c, cNeed, q49c, crP_ok, crP_err, q125c, cond_true, cond_false, retD_ret, panD, leav_nil, finD, tb73c_e, zzK, seval]
        first | exact ⟨h, AHeap.sub_refl h, c⟩ | exact .inl ⟨h, AHeap.sub_refl h, c⟩
      | false =>
      cases c13c : (s == ([33, 61] : List UInt8)) with
      | true =>
        simp only [c1c, c2c, c3c, c4c, c5c, c6c, c7c, c8c, c9c, c10c, c11c, c12c, c13c, Bool.or_true, Bool.true_or, Bool.or_false, Bool.false_or, Bool.false_eq_true, if_true, if_false, crR_ok, crR_err, crP_ok, crP_err] at c
        simp (maxSteps := 1000000) only [c1c, c2c, c3c, c4c, c5c, c6c, c7c, c8c, c9c, c10c, c11c, c12c, c13c, c0c, s126c, cNeed, q49c, crP_ok, crP_err, q125c, cond_true, cond_false, retD_ret, panD, leav_nil, finD, tb73c_e, zzK, seval]
        first | exact ⟨h, AHeap.sub_refl h, c⟩ | exact .inl ⟨h, AHeap.sub_refl h, c⟩
      | false =>
      simp only [c1c, c2c, c3c, c4c, c5c, c6c, c7c, c8c, c9c, c10c, c11c, c12c, c13c, Bool.or_true, Bool.true_or, Bool.or_false, Bool.false_or, Bool.false_eq_true, if_true, if_false, crR_ok, crR_err, crP_ok, crP_err] at c
      simp (maxSteps := 1000000) only [c1c, c2c, c3c, c4c, c5c, c6c, c7c, c8c, c9c, c10c, c11c, c12c, c13c, c0c, s126c, cNeed, q49c, crP_ok, crP_err, q125c, cond_true, cond_false, retD_ret, panD, leav_nil, finD, tb73c_e, zzK, seval]
      first | exact ⟨h, AHeap.sub_refl h, c⟩ | exact .inl ⟨h, AHeap.sub_refl h, c⟩
  · exact c.elim
def tb126c : Tab := tb73c.addE 126 cBin cBin_mono
theorem tb126c_q : tb126c.q = tb73c.q := rfl
theorem tb126c_a : tb126c.a = tb73c.a := rfl
theorem tb126c_c (g : FuncId) (args : List D) (h : AHeap) (K E : D → AHeap → Prop) : tb126c.c g args h K E = if g = 126 then cBin args h K E else tb73c.c g args h K E := rfl
theorem tb126c_ok : tb126c.ok Tryz.prog := Tab.addE_ok tb73c_ok cBin_ok
theorem tb126c_e : type_of% (And.intro (And.intro @tb126c_q (And.intro @tb126c_a @tb126c_c)) @tb73c_e) := (And.intro (And.intro @tb126c_q (And.intro @tb126c_a @tb126c_c)) @tb73c_e)
end
end Go.Proofs.YtpagdhbmbnoddaaGreatDoor.Zz
namespace Go.Proofs.YtpagdhbmbnoddaaGreatDoor.Zz
noncomputable section
def p99c : Plan := ⟨⟨[(1, 5)], [(1, 5)], [], [], [], []⟩, [], [], false⟩
def s99c : Stm :=
 .seq (.ops [⟨.mov (.c (.int .i64 0)), some 4, none, true⟩,
 ⟨.mov (.c (.bool false)), some 5, none, true⟩])
 (.seq (.ops [⟨.mov (.t 0), some 7, none, true⟩,
 ⟨.nilCheck (.t 7), some 8, none, true⟩,
 ⟨.fieldAddr 0 (.t 8), some 9, none, true⟩,
 ⟨.load none (.t 9), some 10, none, false⟩,
 ⟨.mov (.t 1), some 11, none, true⟩,
 ⟨.callR (.f 101) [(.t 10), (.t 11)], some 12, none, false⟩,
 ⟨.mov (.t 12), some 6, none, true⟩])
 (.seq (.seq (.ops [⟨.mov (.t 6), some 13, none, true⟩,
 ⟨.bin .lss (.t 13) (.c (.int .i64 0)), some 14, none, true⟩])
 (.cond (.t 14)
 (.seq (.ops [⟨.mov (.c (.int .i64 0)), some 4, none, true⟩,
 ⟨.mov (.c (.bool false)), some 5, none, true⟩])
 (.ret))
 (.skip)))
 (.seq (.ops [⟨.mov (.t 0), some 15, none, true⟩,
 ⟨.nilCheck (.t 15), some 16, none, true⟩,
 ⟨.fieldAddr 1 (.t 16), some 17, none, true⟩,
 ⟨.load none (.t 17), some 18, none, false⟩,
 ⟨.mov (.t 6), some 19, none, true⟩,
 ⟨.indexAddrS 1 (.t 18) (.t 19), some 20, none, false⟩,
 ⟨.load none (.t 20), some 21, none, false⟩,
 ⟨.mov (.t 21), some 4, none, true⟩,
 ⟨.mov (.c (.bool true)), some 5, none, true⟩])
 (.ret))))
theorem st99c : stmOf Tryz.prog 99 p99c = some (s99c, [.tmp 4, .tmp 5], 22) := by kernel_rfl
def p101c : Plan := ⟨⟨[], [], [], [], [], []⟩, [], [], false⟩
def s101c : Stm :=
 .seq (.ops [⟨.mov (.c (.int .i64 0)), some 4, none, true⟩])
 (.seq (.seq (.ops [⟨.mov (.t 0), some 6, none, true⟩,
 ⟨.len .sl (.t 6), some 7, none, false⟩,
 ⟨.mov (.c (.int .i64 0)), some 8, none, true⟩])
 (.block 0 (.loop (.seq (.ops [⟨.bin .lss (.t 8) (.t 7), some 9, none, true⟩])
 (.seq (.cond (.t 9)
 (.skip)
 (.exit 0))
 (.seq (.block 1 (.seq (.ops [⟨.mov (.t 8), some 10, none, true⟩,
 ⟨.mov (.t 10), some 5, none, true⟩])
 (.seq (.ops [⟨.mov (.t 1), some 11, none, true⟩,
 ⟨.mov (.t 0), some 12, none, true⟩,
 ⟨.mov (.t 5), some 13, none, true⟩,
 ⟨.indexAddrS 1 (.t 12) (.t 13), some 14, none, false⟩,
 ⟨.load none (.t 14), some 15, none, false⟩,
 ⟨.bin .eql (.t 11) (.t 15), some 16, none, true⟩])
 (.cond (.t 16)
 (.seq (.ops [⟨.mov (.t 5), some 17, none, true⟩,
 ⟨.mov (.t 17), some 4, none, true⟩])
 (.ret))
 (.skip)))))
 (.ops [⟨.bin .add (.t 8) (.c (.int .i64 1)), some 18, none, true⟩,
 ⟨.mov (.t 18), some 8, none, true⟩])))))))
 (.seq (.ops [⟨.mov (.c (.int .i64 (-1))), some 4, none, true⟩])
 (.ret)))
theorem st101c : stmOf Tryz.prog 101 p101c = some (s101c, [.tmp 4], 19) := by kernel_rfl
def RowAt (h : AHeap) (d : D) (xs : List (List D)) : Prop := (d = .nilsl ∧ xs = []) ∨ ∃ r ver old, d = .row r ver 0 xs.length ∧ h.f r = some (.arow 1 ver xs old) ∧ ∀ e ∈ old, e.1 < ver
def nmD (sc : Scp) : List (List D) := sc.map fun p => [D.str p.1]
def tyD (sc : Scp) : List (List D) := sc.map fun p => [D.int .i64 p.2]
def idxS (sc : Scp) (s : List UInt8) : Int := match sc.findIdx? (fun p => p.1 == s) with
  | some i => (i : Int)
  | none => -1
theorem len_nmD (sc : Scp) : (nmD sc).length = sc.length := by simp [nmD]
theorem len_tyD (sc : Scp) : (tyD sc).length = sc.length := by simp [tyD]
theorem nmD_get {sc : Scp} {i : Nat} {p : List UInt8 × Int} (h : sc[i]? = some p) : (nmD sc)[i]? = some [.str p.1] := by simp [nmD, h]
theorem tyD_get {sc : Scp} {i : Nat} {p : List UInt8 × Int} (h : sc[i]? = some p) : (tyD sc)[i]? = some [.int .i64 p.2] := by simp [tyD, h]
theorem idxS_at {sc : Scp} {s : List UInt8} {i : Nat} {p : List UInt8 × Int} (h : sc[i]? = some p) (e : (p.1 == s) = true) (hj : ∀ (j : Nat) (q : List UInt8 × Int), j < i → sc[j]? = some q → (q.1 == s) = false) : idxS sc s = (i : Int) ∧ findS sc s = some p.2 := by
  obtain ⟨hlt, hg⟩ := List.getElem?_eq_some_iff.1 h
  have hf : sc.findIdx? (fun p => p.1 == s) = some i := List.findIdx?_eq_some_iff_getElem.2 ⟨hlt, by rw [hg]; exact e, fun j hji => by
    have hl : j < sc.length := by omega
    rw [hj j _ hji (List.getElem?_eq_getElem hl)]
    simp⟩
  refine ⟨by rw [idxS, hf], ?_⟩
  have hfd : sc.find? (fun p => p.1 == s) = some p := List.find?_eq_some_iff_getElem.2 ⟨e, i, hlt, hg, fun j hji => by
    have hl : j < sc.length := by omega
    rw [hj j _ hji (List.getElem?_eq_getElem hl)]
    rfl⟩
  rw [findS, hfd]; rfl
theorem idxS_none {sc : Scp} {s : List UInt8} (hj : ∀ (j : Nat) (q : List UInt8 × Int), sc[j]? = some q → (q.1 == s) = false) : idxS sc s = -1 ∧ findS sc s = none := by
  have hf : sc.findIdx? (fun p => p.1 == s) = none := List.findIdx?_eq_none_iff.2 fun x hx => by
    obtain ⟨j, hj'⟩ := List.mem_iff_getElem?.1 hx
    exact hj j x hj'
  have hfd : sc.find? (fun p => p.1 == s) = none := List.find?_eq_none.2 fun x hx => by
    obtain ⟨j, hj'⟩ := List.mem_iff_getElem?.1 hx
    rw [hj j x hj']; simp
  exact ⟨by rw [idxS, hf], by rw [findS, hfd]; rfl⟩
theorem idxS_cases (sc : Scp) (s : List UInt8) : (idxS sc s = -1 ∧ findS sc s = none) ∨ ∃ (i : Nat) (p : List UInt8 × Int), sc[i]? = some p ∧ idxS sc s = (i : Int) ∧ findS sc s = some p.2 := by
  cases hf : sc.findIdx? (fun p => p.1 == s) with
  | none =>
    refine .inl (idxS_none fun j q hq => ?_)
    exact List.findIdx?_eq_none_iff.1 hf q (List.mem_of_getElem? hq)
  | some i =>
    obtain ⟨hlt, h1, h2⟩ := List.findIdx?_eq_some_iff_getElem.1 hf
    refine .inr ⟨i, sc[i], List.getElem?_eq_getElem hlt, idxS_at (List.getElem?_eq_getElem hlt) h1 fun j q hj hq => ?_⟩
    obtain ⟨hl, rfl⟩ := List.getElem?_eq_some_iff.1 hq
    simpa using h2 j hj
def cIdx (args : List D) (h : AHeap) (K E : D → AHeap → Prop) : Prop := ∃ (sc : Scp) (s : List UInt8) (d : D), args = [d, .str s] ∧ RowAt h d (nmD sc) ∧ K (.int .i64 (idxS sc s)) h
theorem cIdx_mono (args : List D) (h : AHeap) (K E K' E' : D → AHeap → Prop) (hk : ∀ d h, K d h → K' d h) (he : ∀ d h, E d h → E' d h) (c : cIdx args h K E) : cIdx args h K' E' := by
  obtain ⟨sc, s, d, a, b, c⟩ := c
  exact ⟨sc, s, d, a, b, hk _ _ c⟩
theorem cIdx_ok (args : List D) (h : AHeap) (K E : D → AHeap → Prop) (c : cIdx args h K E) : ACalls Tryz.prog 101 args h (AOut.to K E) := by
  obtain ⟨sc, s, d, rfl, hr, k⟩ := c
  refine ACalls.of_stmD (Tab.zero_ok _) (dc := DTab.none) (fun _ _ => DTab.none_ok) (by kernel_rfl) st101c (by simp) ?_
  rw [vc_todo]
  rcases hr with ⟨rfl, hx⟩ | ⟨r, ver, old, rfl, ho, hold⟩
  · have hs : sc = [] := by simpa [nmD] using hx
    subst hs
    simp (maxSteps := 1000000) only [s101c, zzK, seval]
    refine run_loop (X := Nat) (fun i => [(7, .int .i64 0), (8, .int .i64 0)]) (fun _ => h) (fun i => 0) (fun i => True) 0 trivial (by simp only [zzK, seval]) (AHeap.sub_refl _) ?_
    intro x Q _ hQ
    simp (maxSteps := 1000000) only [retD_ret, leav_nil, finD, zzK, seval]
    first | exact ⟨h, AHeap.sub_refl h, k⟩ | exact .inl ⟨h, AHeap.sub_refl h, k⟩
  · simp (maxSteps := 1000000) only [s101c, zzK, seval]
    intro hlen
    refine run_loop (X := Nat) (fun i => [(0, .row r ver 0 (nmD sc).length), (1, .str s), (7, .int .i64 ((nmD sc).length : Int)), (8, .int .i64 i)]) (fun _ => h) (fun i => sc.length - i) (fun i => i ≤ sc.length ∧ ∀ j p, j < i → sc[j]? = some p → (p.1 == s) = false) 0 ⟨by omega, fun j p hj => by omega⟩ (by simp only [zzK, seval]) (AHeap.sub_refl _) ?_
    rintro i Q ⟨i1, i2⟩ hQ
    rw [len_nmD] at hlen ⊢
    by_cases c0c : i < sc.length
    · obtain ⟨p, hp⟩ : ∃ p, sc[i]? = some p := ⟨_, List.getElem?_eq_getElem c0c⟩
      have g : ((i : Int) < (sc.length : Int)) = True := eq_true (by omega)
      have g2 := nmD_get hp
      have g3 : (sc.length : Int) ≤ 9223372036854775807 := by omega
      have wi : IntKind.i64.wrap ((i : Int) + 1) = ((i + 1 : Nat) : Int) := wrap_succ (by omega)
      cases c1c : (s == p.1) with
      | true =>
        simp (maxSteps := 1000000) only [g, ho, g2, c1c, retD_ret, leav_nil, finD, zzK, seval]
        have e : idxS sc s = (i : Int) := (idxS_at hp (by rw [← c1c]; exact Bool.beq_comm ..) i2).1
        rw [e] at k
        first | exact ⟨h, AHeap.sub_refl h, k⟩ | exact .inl ⟨h, AHeap.sub_refl h, k⟩
      | false =>
        simp (maxSteps := 1000000) only [g, ho, g2, c1c, wi, zzK, seval]
        refine hQ (i + 1) _ _ ⟨by omega, fun j q hj hq => ?_⟩ (by simp only [len_nmD, zzK, seval]) (AHeap.sub_refl _) (by omega)
        rcases Nat.lt_succ_iff_lt_or_eq.1 hj with hj | rfl
        · exact i2 j q hj hq
        · rw [hp] at hq; cases hq; rw [← c1c]; exact Bool.beq_comm ..
    · have g : ((i : Int) < (sc.length : Int)) = False := eq_false (by omega)
      simp (maxSteps := 1000000) only [g, retD_ret, leav_nil, finD, zzK, seval]
      have e : idxS sc s = -1 := (idxS_none fun j q hq => i2 j q (by have := (List.getElem?_eq_some_iff.1 hq).1; omega) hq).1
      rw [e] at k
      first | exact ⟨h, AHeap.sub_refl h, k⟩ | exact .inl ⟨h, AHeap.sub_refl h, k⟩
def tb101c : Tab := tb126c.addE 101 cIdx cIdx_mono
theorem tb101c_q : tb101c.q = tb126c.q := rfl
theorem tb101c_a : tb101c.a = tb126c.a := rfl
theorem tb101c_c (g : FuncId) (args : List D) (h : AHeap) (K E : D → AHeap → Prop) : tb101c.c g args h K E = if g = 101 then cIdx args h K E else tb126c.c g args h K E := rfl
theorem tb101c_ok : tb101c.ok Tryz.prog := Tab.addE_ok tb126c_ok cIdx_ok
theorem tb101c_e : type_of% (And.intro (And.intro @tb101c_q (And.intro @tb101c_a @tb101c_c)) @tb126c_e) := (And.intro (And.intro @tb101c_q (And.intro @tb101c_a @tb101c_c)) @tb126c_e)
def cObj (p : Nd) (dn dt : D) (ans : Int) : AObj := .cells (p.enc ++ [dn, dt, .int .i64 ans])
theorem cObj_mk (k t : Int) (s : List UInt8) (n : Int) (l : List Nd) (dn dt : D) (ans : Int) : cObj (.mk k t s n l) dn dt ans = .cells [.int .i64 k, .int .i64 t, .str s, .int .i64 n, .sl (Nd.encs l), dn, dt, .int .i64 ans] := by rw [cObj, enc_mk]; rfl
structure ScAt (h : AHeap) (c : Nat) (p : Nd) (sc : Scp) (dn dt : D) (ans : Int) : Prop where
  obj : h.f c = some (cObj p dn dt ans)
  nm : RowAt h dn (nmD sc)
  ty : RowAt h dt (tyD sc)
  ne : ∀ r v o l r' v' o' l', dn = .row r v o l → dt = .row r' v' o' l' → r ≠ r'
def cFind (args : List D) (h : AHeap) (K E : D → AHeap → Prop) : Prop := ∃ (c : Nat) (p : Nd) (sc : Scp) (dn dt : D) (ans : Int) (s : List UInt8), args = [.ptr c 1 5, .str s] ∧ ScAt h c p sc dn dt ans ∧ K (.tuple [.int .i64 ((findS sc s).getD 0), .bool (findS sc s).isSome]) h
theorem cFind_mono (args : List D) (h : AHeap) (K E K' E' : D → AHeap → Prop) (hk : ∀ d h, K d h → K' d h) (he : ∀ d h, E d h → E' d h) (c : cFind args h K E) : cFind args h K' E' := by
  obtain ⟨c, p, sc, dn, dt, ans, s, a, b, k⟩ := c
  exact ⟨c, p, sc, dn, dt, ans, s, a, b, hk _ _ k⟩
theorem cFind_ok (args : List D) (h : AHeap) (K E : D → AHeap → Prop) (c : cFind args h K E) : ACalls Tryz.prog 99 args h (AOut.to K E) := by
  obtain ⟨c, p, sc, dn, dt, ans, s, rfl, hs, k⟩ := c
  refine ACalls.of_stmD tb101c_ok (dc := DTab.none) (fun _ _ => DTab.none_ok) (by kernel_rfl) st99c (by simp) ?_
  rw [vc_todo]
  obtain ⟨kk, t, ss, n, l⟩ := p
  have ho := hs.obj
  rw [cObj_mk] at ho
  simp (maxSteps := 1000000) only [s99c, ho, tb101c_e, zzK, seval]
  refine ⟨sc, s, dn, rfl, hs.nm, ?_⟩
  rcases idxS_cases sc s with ⟨e1, e2⟩ | ⟨i, q, hq, e1, e2⟩
  · rw [e2] at k
    simp (maxSteps := 1000000) only [e1, retD_ret, leav_nil, finD, tb101c_e, zzK, seval]
    first | exact ⟨h, AHeap.sub_refl h, k⟩ | exact .inl ⟨h, AHeap.sub_refl h, k⟩
  · rw [e2] at k
    have hi := (List.getElem?_eq_some_iff.1 hq).1
    have g : ((i : Int) < 0) = False := eq_false (by omega)
    have g2 := tyD_get hq
    rcases hs.ty with ⟨rfl, hx⟩ | ⟨r, ver, old, rfl, hr, hold⟩
    · have : sc = [] := by simpa [tyD] using hx
      subst this; simp at hq
    · rw [len_tyD] at *
      have g3 : ((i : Int) < (sc.length : Int)) = True := eq_true (by omega)
      simp (maxSteps := 1000000) only [e1, g, ho, hr, g2, g3, retD_ret, leav_nil, finD, tb101c_e, zzK, seval]
      first | exact ⟨h, AHeap.sub_refl h, k⟩ | exact .inl ⟨h, AHeap.sub_refl h, k⟩
def tb99c : Tab := tb101c.addE 99 cFind cFind_mono
theorem tb99c_q : tb99c.q = tb101c.q := rfl
theorem tb99c_a : tb99c.a = tb101c.a := rfl
theorem tb99c_c (g : FuncId) (args : List D) (h : AHeap) (K E : D → AHeap → Prop) : tb99c.c g args h K E = if g = 99 then cFind args h K E else tb101c.c g args h K E := rfl
theorem tb99c_ok : tb99c.ok Tryz.prog := Tab.addE_ok tb101c_ok cFind_ok
theorem tb99c_e : type_of% (And.intro (And.intro @tb99c_q (And.intro @tb99c_a @tb99c_c)) @tb101c_e) := (And.intro (And.intro @tb99c_q (And.intro @tb99c_a @tb99c_c)) @tb101c_e)
end
end Go.Proofs.YtpagdhbmbnoddaaGreatDoor.Zz
namespace Go.Proofs.YtpagdhbmbnoddaaGreatDoor.Zz
noncomputable section
def p100c : Plan := ⟨⟨[], [(1, 3)], [], [], [], []⟩, [], [], false⟩
def s100c : Stm :=
 .seq (.ops [⟨.box (.t 0), some 2, none, false⟩,
 ⟨.box (.t 1), some 3, none, false⟩,
 ⟨.alloc [(.int .i64 0), (.int .i64 0), (.str []), (.int .i64 0), .nilsl], some 4, none, false⟩,
 ⟨.mov (.c (.bool false)), some 5, none, true⟩])
 (.seq (.ops [⟨.fieldAddr 4 (.t 2), some 7, none, true⟩,
 ⟨.load none (.t 7), some 8, none, false⟩,
 ⟨.mkFunc (.func 128) [] [(.t 3)], some 9, none, true⟩,
 ⟨.call (.f 127) [(.t 8), (.t 9)], some 10, none, false⟩,
 ⟨.mov (.t 10), some 6, none, true⟩])
 (.seq (.seq (.ops [⟨.mov (.t 6), some 11, none, true⟩,
 ⟨.bin .lss (.t 11) (.c (.int .i64 0)), some 12, none, true⟩])
 (.cond (.t 12)
 (.seq (.ops [⟨.build [(.int .i64 0), (.int .i64 0), (.str []), (.int .i64 0), .nilsl] [], some 13, none, true⟩,
 ⟨.store 5 (.t 4) (.t 13), none, none, false⟩,
 ⟨.mov (.c (.bool false)), some 5, none, true⟩])
 (.ret))
 (.skip)))
 (.seq (.ops [⟨.fieldAddr 4 (.t 2), some 14, none, true⟩,
 ⟨.load none (.t 14), some 15, none, false⟩,
 ⟨.mov (.t 6), some 16, none, true⟩,
 ⟨.indexAddrS 5 (.t 15) (.t 16), some 17, none, false⟩,
 ⟨.load (some 5) (.t 17), some 18, none, false⟩,
 ⟨.store 5 (.t 4) (.t 18), none, none, false⟩,
 ⟨.mov (.c (.bool true)), some 5, none, true⟩])
 (.ret))))
theorem st100c : stmOf Tryz.prog 100 p100c = some (s100c, [.cell 4 (some 5), .tmp 5], 19) := by kernel_rfl
def p127c : Plan := ⟨⟨[], [(4, 5)], [], [], [], []⟩, [], [], false⟩
def s127c : Stm :=
 .seq (.ops [⟨.mov (.c (.int .i64 0)), some 4, none, true⟩])
 (.seq (.seq (.ops [⟨.mov (.t 0), some 6, none, true⟩,
 ⟨.len .sl (.t 6), some 7, none, false⟩,
 ⟨.mov (.c (.int .i64 0)), some 8, none, true⟩])
 (.block 0 (.loop (.seq (.ops [⟨.bin .lss (.t 8) (.t 7), some 9, none, true⟩])
 (.seq (.cond (.t 9)
 (.skip)
 (.exit 0))
 (.seq (.block 1 (.seq (.ops [⟨.mov (.t 8), some 10, none, true⟩,
 ⟨.mov (.t 10), some 5, none, true⟩])
 (.seq (.ops [⟨.mov (.t 1), some 11, none, true⟩,
 ⟨.mov (.t 0), some 12, none, true⟩,
 ⟨.mov (.t 5), some 13, none, true⟩,
 ⟨.indexAddrS 5 (.t 12) (.t 13), some 14, none, false⟩,
 ⟨.load (some 5) (.t 14), some 15, none, false⟩,
 ⟨.call (.t 11) [(.t 15)], some 16, none, false⟩])
 (.cond (.t 16)
 (.seq (.ops [⟨.mov (.t 5), some 17, none, true⟩,
 ⟨.mov (.t 17), some 4, none, true⟩])
 (.ret))
 (.skip)))))
 (.ops [⟨.bin .add (.t 8) (.c (.int .i64 1)), some 18, none, true⟩,
 ⟨.mov (.t 18), some 8, none, true⟩])))))))
 (.seq (.ops [⟨.mov (.c (.int .i64 (-1))), some 4, none, true⟩])
 (.ret)))
theorem st127c : stmOf Tryz.prog 127 p127c = some (s127c, [.tmp 4], 19) := by kernel_rfl
def p128c : Plan := ⟨⟨[], [], [], [], [], []⟩, [], [], false⟩
def s128c : Stm :=
 .seq (.ops [⟨.box (.t 0), some 2, none, false⟩,
 ⟨.mov (.c (.bool false)), some 3, none, true⟩])
 (.seq (.ops [⟨.fieldAddr 2 (.t 2), some 4, none, true⟩,
 ⟨.load none (.t 4), some 5, none, false⟩,
 ⟨.load none (.t 1), some 6, none, false⟩,
 ⟨.bin .eql (.t 5) (.t 6), some 7, none, true⟩,
 ⟨.mov (.t 7), some 3, none, true⟩])
 (.ret))
theorem st128c : stmOf Tryz.prog 128 p128c = some (s128c, [.tmp 3], 8) := by kernel_rfl
def cNm (args : List D) (h : AHeap) (K E : D → AHeap → Prop) : Prop := ∃ (x : Nd) (s : List UInt8) (b : Nat), args = [.agg x.enc, .ptr b 1 0] ∧ h.f b = some (.cells [.str s]) ∧ K (.bool (x.sD == s)) h
theorem cNm_mono (args : List D) (h : AHeap) (K E K' E' : D → AHeap → Prop) (hk : ∀ d h, K d h → K' d h) (he : ∀ d h, E d h → E' d h) (c : cNm args h K E) : cNm args h K' E' := by
  obtain ⟨x, s, b, a, e, k⟩ := c
  exact ⟨x, s, b, a, e, hk _ _ k⟩
theorem cNm_ok (args : List D) (h : AHeap) (K E : D → AHeap → Prop) (c : cNm args h K E) : ACalls Tryz.prog 128 args h (AOut.to K E) := by
  obtain ⟨x, s, b, rfl, hb, k⟩ := c
  obtain ⟨kk, t, ss, n, l⟩ := x
  refine ACalls.of_stmD tb99c_ok (dc := DTab.none) (fun _ _ => DTab.none_ok) (by kernel_rfl) st128c (by simp) ?_
  rw [vc_todo]
  simp (maxSteps := 1000000) only [s128c, enc_mk, tb99c_e, zzK, seval]
  intro i1 n1
  have hne : i1 ≠ b := fun e => by subst e; rw [n1] at hb; cases hb
  simp (maxSteps := 1000000) only [n1, hb, hne, hne.symm, retD_ret, leav_nil, finD, tb99c_e, zzK, seval]
  first | exact ⟨h, sub_fr n1, k⟩ | exact .inl ⟨h, sub_fr n1, k⟩
def tb128c : Tab := tb99c.addE 128 cNm cNm_mono
theorem tb128c_q : tb128c.q = tb99c.q := rfl
theorem tb128c_a : tb128c.a = tb99c.a := rfl
theorem tb128c_c (g : FuncId) (args : List D) (h : AHeap) (K E : D → AHeap → Prop) : tb128c.c g args h K E = if g = 128 then cNm args h K E else tb99c.c g args h K E := rfl
theorem tb128c_ok : tb128c.ok Tryz.prog := Tab.addE_ok tb99c_ok cNm_ok
theorem tb128c_e : type_of% (And.intro (And.intro @tb128c_q (And.intro @tb128c_a @tb128c_c)) @tb99c_e) := (And.intro (And.intro @tb128c_q (And.intro @tb128c_a @tb128c_c)) @tb99c_e)
def idxK (ks : List Nd) (s : List UInt8) : Int := match ks.findIdx? (fun x => x.sD == s) with
  | some i => (i : Int)
  | none => -1
theorem idxK_at {ks : List Nd} {s : List UInt8} {i : Nat} {p : Nd} (h : ks[i]? = some p) (e : (p.sD == s) = true) (hj : ∀ (j : Nat) (q : Nd), j < i → ks[j]? = some q → (q.sD == s) = false) : idxK ks s = (i : Int) ∧ findK ks s = some p := by
  obtain ⟨hlt, hg⟩ := List.getElem?_eq_some_iff.1 h
  have hf : ks.findIdx? (fun x => x.sD == s) = some i := List.findIdx?_eq_some_iff_getElem.2 ⟨hlt, by rw [hg]; exact e, fun j hji => by
    have hl : j < ks.length := by omega
    rw [hj j _ hji (List.getElem?_eq_getElem hl)]
    simp⟩
  refine ⟨by rw [idxK, hf], ?_⟩
  exact List.find?_eq_some_iff_getElem.2 ⟨e, i, hlt, hg, fun j hji => by
    have hl : j < ks.length := by omega
    rw [hj j _ hji (List.getElem?_eq_getElem hl)]
    rfl⟩
theorem idxK_none {ks : List Nd} {s : List UInt8} (hj : ∀ (j : Nat) (q : Nd), ks[j]? = some q → (q.sD == s) = false) : idxK ks s = -1 ∧ findK ks s = none := by
  have hf : ks.findIdx? (fun x => x.sD == s) = none := List.findIdx?_eq_none_iff.2 fun x hx => by
    obtain ⟨j, hj'⟩ := List.mem_iff_getElem?.1 hx
    exact hj j x hj'
  have hfd : ks.find? (fun x => x.sD == s) = none := List.find?_eq_none.2 fun x hx => by
    obtain ⟨j, hj'⟩ := List.mem_iff_getElem?.1 hx
    rw [hj j x hj']; simp
  exact ⟨by rw [idxK, hf], hfd⟩
theorem idxK_cases (ks : List Nd) (s : List UInt8) : (idxK ks s = -1 ∧ findK ks s = none) ∨ ∃ (i : Nat) (p : Nd), ks[i]? = some p ∧ idxK ks s = (i : Int) ∧ findK ks s = some p := by
  cases hf : ks.findIdx? (fun x => x.sD == s) with
  | none =>
    refine .inl (idxK_none fun j q hq => ?_)
    exact List.findIdx?_eq_none_iff.1 hf q (List.mem_of_getElem? hq)
  | some i =>
    obtain ⟨hlt, h1, h2⟩ := List.findIdx?_eq_some_iff_getElem.1 hf
    refine .inr ⟨i, ks[i], List.getElem?_eq_getElem hlt, idxK_at (List.getElem?_eq_getElem hlt) h1 fun j q hj hq => ?_⟩
    obtain ⟨hl, rfl⟩ := List.getElem?_eq_some_iff.1 hq
    simpa using h2 j hj
def cIdf (args : List D) (h : AHeap) (K E : D → AHeap → Prop) : Prop := ∃ (ks : List Nd) (s : List UInt8) (b : Nat), args = [.sl (Nd.encs ks), .func (.func 128) [] [.ptr b 1 0]] ∧ h.f b = some (.cells [.str s]) ∧ K (.int .i64 (idxK ks s)) h
theorem cIdf_mono (args : List D) (h : AHeap) (K E K' E' : D → AHeap → Prop) (hk : ∀ d h, K d h → K' d h) (he : ∀ d h, E d h → E' d h) (c : cIdf args h K E) : cIdf args h K' E' := by
  obtain ⟨x, s, b, a, e, k⟩ := c
  exact ⟨x, s, b, a, e, hk _ _ k⟩
theorem cIdf_ok (args : List D) (h : AHeap) (K E : D → AHeap → Prop) (c : cIdf args h K E) : ACalls Tryz.prog 127 args h (AOut.to K E) := by
  obtain ⟨ks, s, b, rfl, hb, k⟩ := c
  refine ACalls.of_stmD tb128c_ok (dc := DTab.none) (fun _ _ => DTab.none_ok) (by kernel_rfl) st127c (by simp) ?_
  rw [vc_todo]
  simp (maxSteps := 1000000) only [s127c, len_encs, tb128c_e, zzK, seval]
  intro hlen
  refine run_loop (X := Nat) (fun i => [(0, .sl (Nd.encs ks)), (1, .func (.func 128) [] [.ptr b 1 0]), (7, .int .i64 (ks.length : Int)), (8, .int .i64 i)]) (fun _ => h) (fun i => ks.length - i) (fun i => i ≤ ks.length ∧ ∀ (j : Nat) (q : Nd), j < i → ks[j]? = some q → (q.sD == s) = false) 0 ⟨by omega, fun j p hj => by omega⟩ (by simp only [zzK, seval]) (AHeap.sub_refl _) ?_
  rintro i Q ⟨i1, i2⟩ hQ
  by_cases c0c : i < ks.length
  · obtain ⟨p, hp⟩ : ∃ p, ks[i]? = some p := ⟨_, List.getElem?_eq_getElem c0c⟩
    have g : ((i : Int) < (ks.length : Int)) = True := eq_true (by omega)
    have wi : IntKind.i64.wrap ((i : Int) + 1) = ((i + 1 : Nat) : Int) := wrap_succ (by omega)
    have hac : ∀ (K : D → AHeap → Prop) (h : AHeap), askE 5 K h (Nd.encs ks) (i : Int) = K (.eptr p.enc 0) h := fun K h => askE_encs hp
    have hp' := hp
    obtain ⟨k', t', ss', n', l'⟩ := p
    simp (maxSteps := 1000000) only [g, hac, enc_mk, tb128c_e, zzK, seval]
    refine ⟨.mk k' t' ss' n' l', s, b, by rw [enc_mk], hb, ?_⟩
    cases c1c : (Nd.sD (.mk k' t' ss' n' l') == s) with
    | true =>
      simp (maxSteps := 1000000) only [retD_ret, leav_nil, finD, tb128c_e, zzK, seval]
      rw [(idxK_at hp c1c i2).1] at k
      first | exact ⟨h, AHeap.sub_refl h, k⟩ | exact .inl ⟨h, AHeap.sub_refl h, k⟩
    | false =>
      simp (maxSteps := 1000000) only [wi, tb128c_e, zzK, seval]
      refine hQ (i + 1) _ _ ⟨by omega, fun j q hj hq => ?_⟩ ?_ (AHeap.sub_refl _) (by omega)
      · rcases Nat.lt_succ_iff_lt_or_eq.1 hj with hj | rfl
        · exact i2 j q hj hq
        · rw [hp] at hq; cases hq; exact c1c
      · simp only [zzK, seval]
  · have g : ((i : Int) < (ks.length : Int)) = False := eq_false (by omega)
    simp (maxSteps := 1000000) only [g, retD_ret, leav_nil, finD, tb128c_e, zzK, seval]
    rw [(idxK_none fun j q hq => i2 j q (by have := (List.getElem?_eq_some_iff.1 hq).1; omega) hq).1] at k
    first | exact ⟨h, AHeap.sub_refl h, k⟩ | exact .inl ⟨h, AHeap.sub_refl h, k⟩
def tb127c : Tab := tb128c.addE 127 cIdf cIdf_mono
theorem tb127c_q : tb127c.q = tb128c.q := rfl
theorem tb127c_a : tb127c.a = tb128c.a := rfl
theorem tb127c_c (g : FuncId) (args : List D) (h : AHeap) (K E : D → AHeap → Prop) : tb127c.c g args h K E = if g = 127 then cIdf args h K E else tb128c.c g args h K E := rfl
theorem tb127c_ok : tb127c.ok Tryz.prog := Tab.addE_ok tb128c_ok cIdf_ok
theorem tb127c_e : type_of% (And.intro (And.intro @tb127c_q (And.intro @tb127c_a @tb127c_c)) @tb128c_e) := (And.intro (And.intro @tb127c_q (And.intro @tb127c_a @tb127c_c)) @tb128c_e)
def zNd : D := .agg [.int .i64 0, .int .i64 0, .str [], .int .i64 0, .nilsl]
def findD (ks : List Nd) (s : List UInt8) : D := match findK ks s with
  | some o => .tuple [.agg o.enc, .bool true]
  | none => .tuple [zNd, .bool false]
theorem find_c (k t : Int) (ss : List UInt8) (n : Int) (ks : List Nd) (s : List UInt8) : PCall Tryz.prog 100 [.agg (Nd.enc (.mk k t ss n ks)), .str s] (findD ks s) := by
  refine PCall.run tb127c_ok st100c (by simp) fun E => ?_
  simp (maxSteps := 1000000) only [s100c, enc_mk, tb127c_e, zzK, seval]
  intro i1  i2 a2_1 b2_1 i3 a3_2 b3_2 a3_1 b3_1
  simp (maxSteps := 1000000) only [a2_1, b2_1, a3_2, b3_2, a3_1, b3_1, tb127c_e, zzK, seval]
  refine ⟨ks, s, i2, rfl, by simp [a2_1, b2_1, a3_2, b3_2, a3_1, b3_1], ?_⟩
  unfold findD
  rcases idxK_cases ks s with ⟨e1, e2⟩ | ⟨i, q, hq, e1, e2⟩
  · simp (maxSteps := 1000000) only [e1, e2, zNd, a2_1, b2_1, a3_2, b3_2, a3_1, b3_1, tb127c_e, zzK, seval]
  · have hi := (List.getElem?_eq_some_iff.1 hq).1
    have g : ((i : Int) < 0) = False := eq_false (by omega)
    have hac : ∀ (K : D → AHeap → Prop) (h : AHeap), askE 5 K h (Nd.encs ks) (i : Int) = K (.eptr q.enc 0) h := fun K h => askE_encs hq
    obtain ⟨k', t', ss', n', l'⟩ := q
    simp (maxSteps := 1000000) only [e1, e2, g, hac, enc_mk, a2_1, b2_1, a3_2, b3_2, a3_1, b3_1, tb127c_e, zzK, seval]
open Classical in
def q100c (args : List D) : Option D := if h : ∃ x : Nd × List UInt8, args = [.agg x.1.enc, .str x.2] then some (findD (Classical.choose h).1.lD (Classical.choose h).2) else none
theorem q100c_enc (p : Nd) (s : List UInt8) : q100c [.agg p.enc, .str s] = some (findD p.lD s) := by
  have h : ∃ x : Nd × List UInt8, [D.agg p.enc, .str s] = [.agg x.1.enc, .str x.2] := ⟨(p, s), rfl⟩
  rw [q100c, dif_pos h]
  have e := Classical.choose_spec h
  injection e with e1 e2
  injection e1 with e1
  injection e2 with e2
  injection e2 with e2
  rw [← enc_inj _ _ e1, ← e2]
theorem q100c_mk (k t : Int) (ss : List UInt8) (n : Int) (ks : List Nd) (s : List UInt8) : q100c [.agg [.int .i64 k, .int .i64 t, .str ss, .int .i64 n, .sl (Nd.encs ks)], .str s] = some (findD ks s) := by
  have := q100c_enc (.mk k t ss n ks) s
  rwa [enc_mk] at this
theorem q100c_ok (args : List D) (d : D) (h : q100c args = some d) : PCall Tryz.prog 100 args d := by
  unfold q100c at h
  split at h
  · rename_i hx
    have e := Classical.choose_spec hx
    cases h
    obtain ⟨⟨p, s⟩, hp⟩ : ∃ x, x = Classical.choose hx := ⟨_, rfl⟩
    rw [← hp] at e ⊢
    rw [e]
    obtain ⟨k, t, ss, n, ks⟩ := p
    exact find_c k t ss n ks s
  · cases h
def tb100c : Tab := tb127c.addQ 100 q100c
theorem tb100c_q (g : FuncId) (args : List D) : tb100c.q g args = if g = 100 then q100c args else tb127c.q g args := rfl
theorem tb100c_a : tb100c.a = tb127c.a := rfl
theorem tb100c_c : tb100c.c = tb127c.c := rfl
theorem tb100c_ok : tb100c.ok Tryz.prog := Tab.addQ_ok tb127c_ok q100c_ok
theorem tb100c_e : type_of% (And.intro (And.intro @tb100c_q (And.intro @tb100c_a @tb100c_c)) @tb127c_e) := (And.intro (And.intro @tb100c_q (And.intro @tb100c_a @tb100c_c)) @tb127c_e)
def p123c : Plan := ⟨⟨[], [(1, 4), (5, 6)], [], [], [], []⟩, [], [], false⟩
def s123c : Stm :=
 .seq (.ops [⟨.mov (.c (.int .i64 0)), some 4, none, true⟩])
 (.seq (.seq (.ops [⟨.mov (.t 0), some 10, none, true⟩,
 ⟨.nilCheck (.t 10), some 11, none, true⟩,
 ⟨.fieldAddr 5 (.t 11), some 12, none, true⟩,
 ⟨.mov (.t 1), some 13, none, true⟩,
 ⟨.call (.f 99) [(.t 12), (.t 13)], some 14, none, false⟩,
 ⟨.mov (.t 14), some 9, none, true⟩,
 ⟨.extract (.t 9) 0, some 15, none, true⟩,
 ⟨.extract (.t 9) 1, some 16, none, true⟩,
 ⟨.mov (.t 15), some 5, none, true⟩,
 ⟨.mov (.t 16), some 6, none, true⟩])
 (.seq (.ops [⟨.mov (.t 6), some 17, none, true⟩])
 (.cond (.t 17)
 (.seq (.ops [⟨.mov (.t 5), some 18, none, true⟩,
 ⟨.mov (.t 18), some 4, none, true⟩])
 (.ret))
 (.skip))))
 (.seq (.ops [⟨.mov (.t 0), some 20, none, true⟩,
 ⟨.nilCheck (.t 20), some 21, none, true⟩,
 ⟨.fieldAddr 0 (.t 21), some 22, none, true⟩,
 ⟨.load (some 5) (.t 22), some 23, none, false⟩,
 ⟨.mov (.t 1), some 24, none, true⟩,
 ⟨.qcall (.f 100) [(.t 23), (.t 24)], some 25, none, false⟩,
 ⟨.mov (.t 25), some 19, none, true⟩,
 ⟨.extract (.t 19) 0, some 26, none, true⟩,
 ⟨.extract (.t 19) 1, some 27, none, true⟩,
 ⟨.alloc [(.int .i64 0), (.int .i64 0), (.str []), (.int .i64 0), .nilsl], some 7, none, false⟩,
 ⟨.store 5 (.t 7) (.t 26), none, none, false⟩,
 ⟨.mov (.t 27), some 8, none, true⟩])
 (.seq (.ops [⟨.mov (.t 8), some 28, none, true⟩,
 ⟨.mov (.t 28), some 29, none, true⟩,
 ⟨.fieldAddr 0 (.t 7), some 30, (some (29, true)), true⟩,
 ⟨.load none (.t 30), some 31, (some (29, true)), false⟩,
 ⟨.bin .eql (.t 31) (.c (.int .i64 2)), some 32, (some (29, true)), true⟩,
 ⟨.pick (.t 29) (.t 32) (.c (.bool false)), some 33, none, true⟩,
 ⟨.call (.f 49) [(.t 33), (.c (.int .i64 121))], some 34, none, false⟩])
 (.seq (.ops [⟨.fieldAddr 1 (.t 7), some 35, none, true⟩,
 ⟨.load none (.t 35), some 36, none, false⟩,
 ⟨.mov (.t 36), some 4, none, true⟩])
 (.ret)))))
theorem st123c : stmOf Tryz.prog 123 p123c = some (s123c, [.tmp 4], 37) := by kernel_rfl
def cVar (args : List D) (h : AHeap) (K E : D → AHeap → Prop) : Prop := ∃ (c : Nat) (p : Nd) (sc : Scp) (dn dt : D) (ans : Int) (s : List UInt8), args = [.ptr c 1 0, .str s] ∧ ScAt h c p sc dn dt ans ∧ crP K E h (some (crR (varF p.lD sc s)))
theorem cVar_mono (args : List D) (h : AHeap) (K E K' E' : D → AHeap → Prop) (hk : ∀ d h, K d h → K' d h) (he : ∀ d h, E d h → E' d h) (c : cVar args h K E) : cVar args h K' E' := by
  obtain ⟨c, p, sc, dn, dt, ans, s, a, b, k⟩ := c
  exact ⟨c, p, sc, dn, dt, ans, s, a, b, crP_mono hk he k⟩
theorem cVar_ok (args : List D) (h : AHeap) (K E : D → AHeap → Prop) (c : cVar args h K E) : ACalls Tryz.prog 123 args h (AOut.to K E) := by
  obtain ⟨c, p, sc, dn, dt, ans, s, rfl, hs, k⟩ := c
  refine ACalls.of_stmD tb100c_ok (dc := DTab.none) (fun _ _ => DTab.none_ok) (by kernel_rfl) st123c (by simp) ?_
  rw [vc_todo]
  obtain ⟨kk, t, ss, n, l⟩ := p
  have ho := hs.obj
  rw [cObj_mk] at ho
  simp (maxSteps := 1000000) only [s123c, ho, tb100c_e, zzK, seval]
  refine ⟨c, .mk kk t ss n l, sc, dn, dt, ans, s, rfl, hs, ?_⟩
  simp only [Nd.lD] at k
  unfold varF at k
  cases hf : findS sc s with
  | some t' =>
    rw [hf] at k
    simp (maxSteps := 1000000) only [Option.getD_some, Option.isSome_some, retD_ret, leav_nil, finD, tb100c_e, zzK, seval]
    first | exact ⟨h, AHeap.sub_refl h, k⟩ | exact .inl ⟨h, AHeap.sub_refl h, k⟩
  | none =>
    rw [hf] at k
    simp (maxSteps := 1000000) only [Option.getD_none, Option.isSome_none, ho, q100c_mk, tb100c_e, zzK, seval]
    unfold findD
    cases hk : findK l s with
    | none =>
      rw [hk] at k
      simp (maxSteps := 1000000) only [zNd, tb100c_e, zzK, seval]
      intro i1 n1
      simp (maxSteps := 1000000) only [n1, cNeed, q49c, crP_err, cond_false, panD, leav_nil, finD, tb100c_e, zzK, seval]
      exact ⟨h, sub_fr n1, k⟩
    | some o =>
      obtain ⟨k', t', ss', n', l'⟩ := o
      rw [hk] at k
      simp only [Nd.kD, Nd.tD] at k
      simp (maxSteps := 1000000) only [enc_mk, tb100c_e, zzK, seval]
      intro i1 n1
      cases c1c : (k' == 2) with
      | true =>
        simp only [c1c, if_true, crR_ok, crP_ok] at k
        simp (maxSteps := 1000000) only [n1, c1c, cNeed, q49c, crP_ok, cond_true, retD_ret, leav_nil, finD, tb100c_e, zzK, seval]
        first | exact ⟨h, sub_fr n1, k⟩ | exact .inl ⟨h, sub_fr n1, k⟩
      | false =>
        simp only [c1c, Bool.false_eq_true, if_false, crR_err, crP_err] at k
        simp (maxSteps := 1000000) only [n1, c1c, cNeed, q49c, crP_err, cond_false, panD, leav_nil, finD, tb100c_e, zzK, seval]
        first | exact ⟨h, sub_fr n1, k⟩ | exact .inl ⟨h, sub_fr n1, k⟩
def tb123c : Tab := tb100c.addE 123 cVar cVar_mono
theorem tb123c_q : tb123c.q = tb100c.q := rfl
theorem tb123c_a : tb123c.a = tb100c.a := rfl
theorem tb123c_c (g : FuncId) (args : List D) (h : AHeap) (K E : D → AHeap → Prop) : tb123c.c g args h K E = if g = 123 then cVar args h K E else tb100c.c g args h K E := rfl
theorem tb123c_ok : tb123c.ok Tryz.prog := Tab.addE_ok tb100c_ok cVar_ok
theorem tb123c_e : type_of% (And.intro (And.intro @tb123c_q (And.intro @tb123c_a @tb123c_c)) @tb100c_e) := (And.intro (And.intro @tb123c_q (And.intro @tb123c_a @tb123c_c)) @tb100c_e)
end
end Go.Proofs.YtpagdhbmbnoddaaGreatDoor.Zz
