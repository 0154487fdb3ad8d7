/- Contracts: the wire's writer. -/
import Derived.Test.YthpgepillaeldaaDoorZA2
set_option linter.unnecessarySimpa false
namespace Go.Proofs.YthpgepillaeldaaDoor.Zz
set_option linter.unusedVariables false
set_option linter.unusedSimpArgs false
set_option maxRecDepth 20000
def p40n : Plan := ⟨⟨[], [], [], [], [], []⟩, [], [], false⟩
/-- cupel/wire.NewWriter (0 parameters, 0 captured) -/
def s40n : Stm :=
  .seq (.ops [⟨.mov (.c .nilptr), (some 0), none, true⟩])
  (.seq (.ops [⟨.build [.nilsl] [], (some 1), none, true⟩,
     ⟨.box (.t 1), (some 2), none, false⟩,
     ⟨.mov (.t 2), (some 0), none, true⟩])
  (.ret))
theorem st40n : stmOf Tryd.prog 40 p40n = some (s40n, [.tmp 0], 3) := by kernel_rfl

def p101n : Plan := ⟨⟨[], [], [], [], [], []⟩, [], [], false⟩
/-- (*cupel/wire.Writer).Bytes (2 parameters, 0 captured) -/
def s101n : Stm :=
  .seq (.ops [⟨.mov (.t 0), (some 4), none, true⟩,
     ⟨.eql .ptr true (.t 4) (.c .nilptr), (some 5), none, true⟩])
  (.cond (.t 5)
   (.ops [⟨.mov (.t 0), (some 6), none, true⟩,
      ⟨.mov (.t 0), (some 7), none, true⟩,
      ⟨.nilCheck (.t 7), (some 8), none, true⟩,
      ⟨.fieldAddr 0 (.t 8), (some 9), none, true⟩,
      ⟨.load none (.t 9), (some 10), none, false⟩,
      ⟨.mov (.t 1), (some 11), none, true⟩,
      ⟨.append 1 1 true (.t 10) (.t 11), (some 12), none, false⟩,
      ⟨.nilCheck (.t 6), (some 13), none, true⟩,
      ⟨.fieldAddr 0 (.t 13), (some 14), none, true⟩,
      ⟨.store 1 (.t 14) (.t 12), none, none, false⟩])
   (.skip))
theorem st101n : stmOf Tryd.prog 101 p101n = some (s101n, [], 15) := by kernel_rfl

def p74n : Plan := ⟨⟨[], [(0, 4)], [], [], [], []⟩, [], [], false⟩
/-- (*cupel/wire.Writer).Number (3 parameters, 0 captured) -/
def s74n : Stm :=
  .ops [⟨.mov (.t 0), (some 6), none, true⟩,
    ⟨.mov (.t 1), (some 7), none, true⟩,
    ⟨.mov (.t 2), (some 8), none, true⟩,
    ⟨.qcall (.f 102) [(.t 7), (.t 8)], (some 9), none, false⟩,
    ⟨.call (.f 101) [(.t 6), (.t 9)], (some 10), none, false⟩]
theorem st74n : stmOf Tryd.prog 74 p74n = some (s74n, [], 11) := by kernel_rfl

def p103n : Plan := ⟨⟨[], [(0, 4)], [], [], [], []⟩, [], [], false⟩
/-- (*cupel/wire.Writer).Count (2 parameters, 0 captured) -/
def s103n : Stm :=
  .ops [⟨.mov (.t 0), (some 4), none, true⟩,
    ⟨.mov (.t 1), (some 5), none, true⟩,
    ⟨.minmax true (.t 5) (.c (.int .i64 0)), (some 6), none, true⟩,
    ⟨.conv (.intInt .u64) (.t 6), (some 7), none, true⟩,
    ⟨.call (.f 74) [(.t 4), (.t 7), (.c (.int .i64 4))], (some 8), none, false⟩]
theorem st103n : stmOf Tryd.prog 103 p103n = some (s103n, [], 9) := by kernel_rfl

def p75n : Plan := ⟨⟨[], [(0, 3), (1, 2)], [], [], [], []⟩, [], [], false⟩
/-- (*cupel/wire.Writer).Text (2 parameters, 0 captured) -/
def s75n : Stm :=
  .seq (.ops [⟨.mov (.t 0), (some 4), none, true⟩,
     ⟨.mov (.t 1), (some 5), none, true⟩,
     ⟨.len .str (.t 5), (some 6), none, false⟩,
     ⟨.call (.f 103) [(.t 4), (.t 6)], (some 7), none, false⟩])
  (.ops [⟨.mov (.t 0), (some 8), none, true⟩,
    ⟨.mov (.t 1), (some 9), none, true⟩,
    ⟨.call (.f 101) [(.t 8), (.t 9)], (some 10), none, false⟩])
theorem st75n : stmOf Tryd.prog 75 p75n = some (s75n, [], 11) := by kernel_rfl

def p42n : Plan := ⟨⟨[], [], [], [], [], []⟩, [], [], false⟩
/-- (*cupel/wire.Writer).All (1 parameters, 0 captured) -/
def s42n : Stm :=
  .seq (.ops [⟨.mov (.c (.str [])), (some 2), none, true⟩])
  (.seq (.seq (.ops [⟨.mov (.t 0), (some 3), none, true⟩,
      ⟨.eql .ptr false (.t 3) (.c .nilptr), (some 4), none, true⟩])
   (.cond (.t 4)
    (.seq (.ops [⟨.mov (.c (.str [])), (some 2), none, true⟩])
     (.ret))
    (.skip)))
  (.seq (.ops [⟨.mov (.t 0), (some 5), none, true⟩,
     ⟨.nilCheck (.t 5), (some 6), none, true⟩,
     ⟨.fieldAddr 0 (.t 6), (some 7), none, true⟩,
     ⟨.load none (.t 7), (some 8), none, false⟩,
     ⟨.conv .bytesStr (.t 8), (some 9), none, false⟩,
     ⟨.mov (.t 9), (some 2), none, true⟩])
  (.ret)))
theorem st42n : stmOf Tryd.prog 42 p42n = some (s42n, [.tmp 2], 10) := by kernel_rfl

/-- A writer that holds bytes. -/
def wrAt (h : AHeap) (id r : Nat) (s : List UInt8) : Prop := h.f id = some (.cells [ownD r s.length]) ∧ (s ≠ [] → r ≠ id ∧ h.f r = some (.row 1 (s.length + 2) (encB s) false))
/-- What it holds behind so many bytes more. -/
def wrTo (h h' : AHeap) (id r r' : Nat) (s t : List UInt8) : Prop :=
  wrAt h' id r' (s ++ t) ∧ (s ≠ [] → r' = r) ∧ (s = [] → t ≠ [] → h.f r' = none) ∧ ∀ j, h.f j ≠ none → j ≠ id → (s ≠ [] → j ≠ r) → h'.f j = h.f j
theorem wrTo_trans {h h1 h2 : AHeap} {id r r1 r2 : Nat} {s t u : List UInt8} (hi : h.f id ≠ none) (a : wrTo h h1 id r r1 s t) (b : wrTo h1 h2 id r1 r2 (s ++ t) u) : wrTo h h2 id r r2 s (t ++ u) := by
  obtain ⟨a1, a2, a3, a4⟩ := a
  obtain ⟨b1, b2, b3, b4⟩ := b
  refine ⟨by rw [← List.append_assoc]; exact b1, fun hs => ?_, fun hs ht => ?_, fun j hj hji hjr => ?_⟩
  · rw [b2 (by simp [hs]), a2 hs]
  · subst hs
    by_cases t0 : t = []
    · subst t0
      have hn := b3 rfl (by simpa using ht)
      by_cases e : h.f r2 = none
      · exact e
      · exfalso
        by_cases e2 : r2 = id
        · subst e2; rw [a1.1] at hn; cases hn
        · exact e ((a4 r2 e e2 (fun k => absurd rfl k)).symm.trans hn)
    · rw [b2 (by simpa using t0)]
      exact a3 rfl t0
  · have e1 := a4 j hj hji hjr
    have e2 := b4 j (by rw [e1]; exact hj) hji (fun hst => by
      by_cases s0n : s = []
      · subst s0n
        have := a3 rfl (by simpa using hst)
        exact fun e => hj (by rw [e]; exact this)
      · rw [a2 s0n]; exact hjr s0n)
    rw [e2, e1]
theorem wrTo_pre {h h2 : AHeap} {id r r2 i : Nat} {s t : List UInt8} {o : AObj} (hn : h.f i = none) (a : wrTo (h.set i o) h2 id r r2 s t) : wrTo h h2 id r r2 s t := by
  obtain ⟨a1, a2, a3, a4⟩ := a
  refine ⟨a1, a2, fun hs ht => ?_, fun j hj hji hjr => ?_⟩
  · have := a3 hs ht
    rw [AHeap.set_f] at this
    split at this
    · cases this
    · exact this
  · have hne : ¬ j = i := fun e => hj (by rw [e]; exact hn)
    have e := a4 j (by rw [AHeap.set_f, if_neg hne]; exact hj) hji hjr
    rw [e, AHeap.set_f, if_neg hne]
theorem wrTo_nil {h : AHeap} {id r : Nat} {s : List UInt8} (a : wrAt h id r s) : wrTo h h id r r s [] :=
  ⟨by rw [List.append_nil]; exact a, fun _ => rfl, fun _ h => absurd rfl h, fun _ _ _ _ => rfl⟩
/-- A contract that puts bytes. -/
def wrC (A : Nat → List D → List UInt8 → Prop) (args : List D) (h : AHeap) (K : D → AHeap → Prop) : Prop :=
  ∃ id r s t, A id args t ∧ wrAt h id r s ∧ s.length + t.length ≤ 140737488355328 ∧ ∀ r' h', wrTo h h' id r r' s t → K (.tuple []) h'
theorem wrC_mono {A : Nat → List D → List UInt8 → Prop} (args : List D) (h : AHeap) (K K' : D → AHeap → Prop) (hk : ∀ d h, K d h → K' d h) (c : wrC A args h K) : wrC A args h K' := by
  obtain ⟨id, r, s, t, a, b, c, d⟩ := c
  exact ⟨id, r, s, t, a, b, c, fun r' h' k => hk _ _ (d r' h' k)⟩
theorem wrC_ok {f : FuncId} {A : Nat → List D → List UInt8 → Prop} (hf : ∀ id r s t args h, A id args t → wrAt h id r s → s.length + t.length ≤ 140737488355328 → ACalls Tryd.prog f args h fun o h' => ∃ d, o = .ret d ∧ d = .tuple [] ∧ ∃ r', wrTo h h' id r r' s t)
    (args : List D) (h : AHeap) (K : D → AHeap → Prop) (c : wrC A args h K) : ACalls Tryd.prog f args h fun o h' => ∃ d, o = .ret d ∧ K d h' := by
  obtain ⟨id, r, s, t, a, b, c, d⟩ := c
  exact (hf id r s t args h a b c).mono fun o h' ⟨x, e1, e2, r', e3⟩ => ⟨x, e1, by rw [e2]; exact d r' h' e3⟩
theorem wbytes_c (id r : Nat) (s t : List UInt8) (h : AHeap) (hw : wrAt h id r s) (hb : s.length + t.length ≤ 140737488355328) :
    ACalls Tryd.prog 101 [.ptr id 1 0, .str t] h fun o h' => ∃ d, o = .ret d ∧ d = .tuple [] ∧ ∃ r', wrTo h h' id r r' s t := by
  refine ACalls.run (Tab.zero_ok _) st101n (by simp) fun E => ?_
  obtain ⟨h1, h2⟩ := hw
  by_cases s0n : s = []
  · subst s0n
    simp only [List.length_nil, ownD_zero] at h1
    simp (config := {maxSteps := 1000000}) only [s101n, h1, i_callNe, Int.natCast_nonneg, Nat.le_refl, Int.le_refl, List.take_succ_cons, List.take_zero, decide_true, decide_false, Bool.and_false, Bool.false_and, zz, zzN, zzF, zzD, zzM, cond_true, cond_false, ↓reduceIte, Nat.reduceEqDiff, Nat.reduceBEq, Int.reduceLT, Int.reduceLE, Int.reduceToNat, Int.reduceEq, Int.reduceAdd, Int.reduceSub, Int.reduceMul, Int.reduceNeg, Nat.reduceMul, Nat.reduceSub, Nat.reduceLeDiff, Nat.reduceLT, Int.reduceGT, Int.reduceGE, Int.reduceBEq, Int.reduceBNe, reduceCtorEq, Nat.reduceAdd]
    refine ⟨fun t0 => ⟨r, ?_⟩, by omega, fun t0 i k => ?_⟩
    · subst t0
      refine ⟨⟨by simp [AHeap.set_f, ownD], fun hs => absurd rfl hs⟩, fun _ => rfl, fun _ hs => absurd rfl hs, fun j _ hj _ => by simp [AHeap.set_f, hj]⟩
    · have n : ¬ id = i := fun e => by subst e; rw [h1] at k; cases k
      have hl : t.length ≠ 0 := fun e => t0 (List.length_eq_zero_iff.1 e)
      simp (config := {maxSteps := 1000000}) only [n, h1, i_callNe, Int.natCast_nonneg, Nat.le_refl, Int.le_refl, List.take_succ_cons, List.take_zero, decide_true, decide_false, Bool.and_false, Bool.false_and, zz, zzN, zzF, zzD, zzM, cond_true, cond_false, ↓reduceIte, Nat.reduceEqDiff, Nat.reduceBEq, Int.reduceLT, Int.reduceLE, Int.reduceToNat, Int.reduceEq, Int.reduceAdd, Int.reduceSub, Int.reduceMul, Int.reduceNeg, Nat.reduceMul, Nat.reduceSub, Nat.reduceLeDiff, Nat.reduceLT, Int.reduceGT, Int.reduceGE, Int.reduceBEq, Int.reduceBNe, reduceCtorEq, Nat.reduceAdd]
      refine ⟨i, ⟨?_, ?_⟩, fun hs => absurd rfl hs, fun _ _ => k, fun j hj hji _ => ?_⟩
      · simp [AHeap.set_f, ownD, hl]
      · intro _
        refine ⟨fun e => n e.symm, ?_⟩
        have n' : ¬ i = id := fun e => n e.symm
        simp [AHeap.set_f, n']
      · have : ¬ j = i := fun e => hj (by rw [e]; exact k)
        simp [AHeap.set_f, hji, this]
  · have hl : s.length ≠ 0 := fun e => s0n (List.length_eq_zero_iff.1 e)
    obtain ⟨q, h2⟩ := h2 s0n
    have q' : ¬ id = r := fun e => q e.symm
    rw [ownD_pos hl] at h1
    simp (config := {maxSteps := 1000000}) only [s101n, h1, h2, q, q', i_callNe, Int.natCast_nonneg, Nat.le_refl, Int.le_refl, List.take_succ_cons, List.take_zero, decide_true, decide_false, Bool.and_false, Bool.false_and, zz, zzN, zzF, zzD, zzM, cond_true, cond_false, ↓reduceIte, Nat.reduceEqDiff, Nat.reduceBEq, Int.reduceLT, Int.reduceLE, Int.reduceToNat, Int.reduceEq, Int.reduceAdd, Int.reduceSub, Int.reduceMul, Int.reduceNeg, Nat.reduceMul, Nat.reduceSub, Nat.reduceLeDiff, Nat.reduceLT, Int.reduceGT, Int.reduceGE, Int.reduceBEq, Int.reduceBNe, reduceCtorEq, Nat.reduceAdd]
    refine ⟨by omega, r, ⟨?_, fun _ => ⟨q, ?_⟩⟩, fun _ => rfl, fun hs => absurd hs s0n, fun j hj hji hjr => ?_⟩
    · simp [AHeap.set_f, ownD, hl]; omega
    · simp [AHeap.set_f, q]; omega
    · have := hjr s0n
      simp [AHeap.set_f, hji, this]
def aBytes (id : Nat) (args : List D) (t : List UInt8) : Prop := args = [.ptr id 1 0, .str t]
def c101n := wrC aBytes
theorem c101n_mono : type_of% (@wrC_mono aBytes) := @wrC_mono aBytes
theorem c101n_ok (args : List D) (h : AHeap) (K : D → AHeap → Prop) (c : c101n args h K) : ACalls Tryd.prog 101 args h fun o h' => ∃ d, o = .ret d ∧ K d h' :=
  wrC_ok (fun id r s t args h e a b => by subst e; exact wbytes_c id r s t h a b) args h K c
def tb101n : Tab := tb37n.addW 101 c101n c101n_mono
theorem tb101n_q : tb101n.q = tb37n.q := rfl
theorem tb101n_a : tb101n.a = tb37n.a := rfl
theorem tb101n_c (g : FuncId) (args : List D) (h : AHeap) (K E : D → AHeap → Prop) : tb101n.c g args h K E = if g = 101 then c101n args h K else tb37n.c g args h K E := rfl
theorem tb101n_ok : tb101n.ok Tryd.prog := Tab.addW_ok tb37n_ok c101n_ok
theorem tb101n_e : type_of% (And.intro (And.intro @tb101n_q (And.intro @tb101n_a @tb101n_c)) @tb37n_e) := (And.intro (And.intro @tb101n_q (And.intro @tb101n_a @tb101n_c)) @tb37n_e)

def qNum : List D → Option D
  | [.int .u64 n, .int .i64 m] => if 0 ≤ n ∧ n < 18446744073709551616 then some (.str (leB n.toNat (bN m))) else none
  | _ => none
theorem qNum_ok (args : List D) (d : D) (h : qNum args = some d) : PCall Tryd.prog 102 args d := by
  unfold qNum at h
  split at h
  · split at h
    · rename_i n m c
      cases h
      have := number_c n.toNat m (by omega)
      rwa [Int.toNat_of_nonneg c.1] at this
    · cases h
  · cases h
def tb102n : Tab := tb101n.addQ 102 qNum
theorem tb102n_q (g : FuncId) (args : List D) : tb102n.q g args = if g = 102 then qNum args else tb101n.q g args := rfl
theorem tb102n_a : tb102n.a = tb101n.a := rfl
theorem tb102n_c : tb102n.c = tb101n.c := rfl
theorem tb102n_ok : tb102n.ok Tryd.prog := Tab.addQ_ok tb101n_ok qNum_ok
theorem tb102n_e : type_of% (And.intro (And.intro @tb102n_q (And.intro @tb102n_a @tb102n_c)) @tb101n_e) := (And.intro (And.intro @tb102n_q (And.intro @tb102n_a @tb102n_c)) @tb101n_e)

theorem wnum_c (id r : Nat) (s : List UInt8) (n : Nat) (m : Int) (hn : n < 2 ^ 64) (h : AHeap) (hw : wrAt h id r s) (hb : s.length + (leB n (bN m)).length ≤ 140737488355328) :
    ACalls Tryd.prog 74 [.ptr id 1 0, .int .u64 n, .int .i64 m] h fun o h' => ∃ d, o = .ret d ∧ d = .tuple [] ∧ ∃ r', wrTo h h' id r r' s (leB n (bN m)) := by
  refine ACalls.run tb102n_ok st74n (by simp) fun E => ?_
  have b0 : (0 ≤ (n : Int) ∧ (n : Int) < 18446744073709551616) := by omega
  simp (config := {maxSteps := 1000000}) only [s74n, qNum, b0, Int.toNat_natCast, tb100n_e, tb102n_e, i_callNe, Int.natCast_nonneg, Nat.le_refl, Int.le_refl, List.take_succ_cons, List.take_zero, decide_true, decide_false, Bool.and_false, Bool.false_and, zz, zzN, zzF, zzD, zzM, cond_true, cond_false, ↓reduceIte, Nat.reduceEqDiff, Nat.reduceBEq, Int.reduceLT, Int.reduceLE, Int.reduceToNat, Int.reduceEq, Int.reduceAdd, Int.reduceSub, Int.reduceMul, Int.reduceNeg, Nat.reduceMul, Nat.reduceSub, Nat.reduceLeDiff, Nat.reduceLT, Int.reduceGT, Int.reduceGE, Int.reduceBEq, Int.reduceBNe, reduceCtorEq, Nat.reduceAdd]
  refine ⟨id, r, s, _, rfl, hw, hb, fun r' h' k => ?_⟩
  simp (config := {maxSteps := 1000000}) only [tb100n_e, tb102n_e, i_callNe, Int.natCast_nonneg, Nat.le_refl, Int.le_refl, List.take_succ_cons, List.take_zero, decide_true, decide_false, Bool.and_false, Bool.false_and, zz, zzN, zzF, zzD, zzM, cond_true, cond_false, ↓reduceIte, Nat.reduceEqDiff, Nat.reduceBEq, Int.reduceLT, Int.reduceLE, Int.reduceToNat, Int.reduceEq, Int.reduceAdd, Int.reduceSub, Int.reduceMul, Int.reduceNeg, Nat.reduceMul, Nat.reduceSub, Nat.reduceLeDiff, Nat.reduceLT, Int.reduceGT, Int.reduceGE, Int.reduceBEq, Int.reduceBNe, reduceCtorEq, Nat.reduceAdd]
  exact ⟨r', k⟩
def aNum (id : Nat) (args : List D) (t : List UInt8) : Prop := ∃ (n : Nat) (m : Int), n < 2 ^ 64 ∧ args = [.ptr id 1 0, .int .u64 n, .int .i64 m] ∧ t = leB n (bN m)
def c74n := wrC aNum
theorem c74n_mono : type_of% (@wrC_mono aNum) := @wrC_mono aNum
theorem c74n_ok (args : List D) (h : AHeap) (K : D → AHeap → Prop) (c : c74n args h K) : ACalls Tryd.prog 74 args h fun o h' => ∃ d, o = .ret d ∧ K d h' :=
  wrC_ok (fun id r s t args h e a b => by obtain ⟨n, m, hn, rfl, rfl⟩ := e; exact wnum_c id r s n m hn h a b) args h K c
def tb74n : Tab := tb102n.addW 74 c74n c74n_mono
theorem tb74n_q : tb74n.q = tb102n.q := rfl
theorem tb74n_a : tb74n.a = tb102n.a := rfl
theorem tb74n_c (g : FuncId) (args : List D) (h : AHeap) (K E : D → AHeap → Prop) : tb74n.c g args h K E = if g = 74 then c74n args h K else tb102n.c g args h K E := rfl
theorem tb74n_ok : tb74n.ok Tryd.prog := Tab.addW_ok tb102n_ok c74n_ok
theorem tb74n_e : type_of% (And.intro (And.intro @tb74n_q (And.intro @tb74n_a @tb74n_c)) @tb102n_e) := (And.intro (And.intro @tb74n_q (And.intro @tb74n_a @tb74n_c)) @tb102n_e)

theorem wcount_c (id r : Nat) (s : List UInt8) (n : Nat) (hn : n < 2 ^ 63) (h : AHeap) (hw : wrAt h id r s) (hb : s.length + (leB n 4).length ≤ 140737488355328) :
    ACalls Tryd.prog 103 [.ptr id 1 0, .int .i64 n] h fun o h' => ∃ d, o = .ret d ∧ d = .tuple [] ∧ ∃ r', wrTo h h' id r r' s (leB n 4) := by
  refine ACalls.run tb74n_ok st103n (by simp) fun E => ?_
  simp (config := {maxSteps := 1000000}) only [s103n, Int.toNat_natCast, tb100n_e, tb74n_e, i_callNe, Int.natCast_nonneg, Nat.le_refl, Int.le_refl, List.take_succ_cons, List.take_zero, decide_true, decide_false, Bool.and_false, Bool.false_and, zz, zzN, zzF, zzD, zzM, cond_true, cond_false, ↓reduceIte, Nat.reduceEqDiff, Nat.reduceBEq, Int.reduceLT, Int.reduceLE, Int.reduceToNat, Int.reduceEq, Int.reduceAdd, Int.reduceSub, Int.reduceMul, Int.reduceNeg, Nat.reduceMul, Nat.reduceSub, Nat.reduceLeDiff, Nat.reduceLT, Int.reduceGT, Int.reduceGE, Int.reduceBEq, Int.reduceBNe, reduceCtorEq, Nat.reduceAdd]
  refine ⟨id, r, s, _, ⟨n, 4, by omega, ?_, rfl⟩, hw, hb, fun r' h' k => ?_⟩
  · rw [if_neg (by omega), wrap_u64 (by omega) (by omega)]
  simp (config := {maxSteps := 1000000}) only [tb100n_e, tb74n_e, i_callNe, Int.natCast_nonneg, Nat.le_refl, Int.le_refl, List.take_succ_cons, List.take_zero, decide_true, decide_false, Bool.and_false, Bool.false_and, zz, zzN, zzF, zzD, zzM, cond_true, cond_false, ↓reduceIte, Nat.reduceEqDiff, Nat.reduceBEq, Int.reduceLT, Int.reduceLE, Int.reduceToNat, Int.reduceEq, Int.reduceAdd, Int.reduceSub, Int.reduceMul, Int.reduceNeg, Nat.reduceMul, Nat.reduceSub, Nat.reduceLeDiff, Nat.reduceLT, Int.reduceGT, Int.reduceGE, Int.reduceBEq, Int.reduceBNe, reduceCtorEq, Nat.reduceAdd]
  exact ⟨r', k⟩
def aCount (id : Nat) (args : List D) (t : List UInt8) : Prop := ∃ (n : Nat), n < 2 ^ 63 ∧ args = [.ptr id 1 0, .int .i64 n] ∧ t = leB n 4
def c103n := wrC aCount
theorem c103n_mono : type_of% (@wrC_mono aCount) := @wrC_mono aCount
theorem c103n_ok (args : List D) (h : AHeap) (K : D → AHeap → Prop) (c : c103n args h K) : ACalls Tryd.prog 103 args h fun o h' => ∃ d, o = .ret d ∧ K d h' :=
  wrC_ok (fun id r s t args h e a b => by obtain ⟨n, hn, rfl, rfl⟩ := e; exact wcount_c id r s n hn h a b) args h K c
def tb103n : Tab := tb74n.addW 103 c103n c103n_mono
theorem tb103n_q : tb103n.q = tb74n.q := rfl
theorem tb103n_a : tb103n.a = tb74n.a := rfl
theorem tb103n_c (g : FuncId) (args : List D) (h : AHeap) (K E : D → AHeap → Prop) : tb103n.c g args h K E = if g = 103 then c103n args h K else tb74n.c g args h K E := rfl
theorem tb103n_ok : tb103n.ok Tryd.prog := Tab.addW_ok tb74n_ok c103n_ok
theorem tb103n_e : type_of% (And.intro (And.intro @tb103n_q (And.intro @tb103n_a @tb103n_c)) @tb74n_e) := (And.intro (And.intro @tb103n_q (And.intro @tb103n_a @tb103n_c)) @tb74n_e)

theorem wtext_c (id r : Nat) (s t : List UInt8) (h : AHeap) (hw : wrAt h id r s) (hb : s.length + (leB t.length 4 ++ t).length ≤ 140737488355328) :
    ACalls Tryd.prog 75 [.ptr id 1 0, .str t] h fun o h' => ∃ d, o = .ret d ∧ d = .tuple [] ∧ ∃ r', wrTo h h' id r r' s (leB t.length 4 ++ t) := by
  refine ACalls.run tb103n_ok st75n (by simp) fun E => ?_
  have hb' : (leB t.length 4).length = 4 := len_leB _ _
  rw [List.length_append] at hb
  simp (config := {maxSteps := 1000000}) only [s75n, tb100n_e, tb103n_e, i_callNe, Int.natCast_nonneg, Nat.le_refl, Int.le_refl, List.take_succ_cons, List.take_zero, decide_true, decide_false, Bool.and_false, Bool.false_and, zz, zzN, zzF, zzD, zzM, cond_true, cond_false, ↓reduceIte, Nat.reduceEqDiff, Nat.reduceBEq, Int.reduceLT, Int.reduceLE, Int.reduceToNat, Int.reduceEq, Int.reduceAdd, Int.reduceSub, Int.reduceMul, Int.reduceNeg, Nat.reduceMul, Nat.reduceSub, Nat.reduceLeDiff, Nat.reduceLT, Int.reduceGT, Int.reduceGE, Int.reduceBEq, Int.reduceBNe, reduceCtorEq, Nat.reduceAdd]
  intro hl
  refine ⟨id, r, s, _, ⟨t.length, by omega, rfl, rfl⟩, hw, by omega, fun r1 h1 k1 => ?_⟩
  simp (config := {maxSteps := 1000000}) only [tb100n_e, tb103n_e, i_callNe, Int.natCast_nonneg, Nat.le_refl, Int.le_refl, List.take_succ_cons, List.take_zero, decide_true, decide_false, Bool.and_false, Bool.false_and, zz, zzN, zzF, zzD, zzM, cond_true, cond_false, ↓reduceIte, Nat.reduceEqDiff, Nat.reduceBEq, Int.reduceLT, Int.reduceLE, Int.reduceToNat, Int.reduceEq, Int.reduceAdd, Int.reduceSub, Int.reduceMul, Int.reduceNeg, Nat.reduceMul, Nat.reduceSub, Nat.reduceLeDiff, Nat.reduceLT, Int.reduceGT, Int.reduceGE, Int.reduceBEq, Int.reduceBNe, reduceCtorEq, Nat.reduceAdd]
  refine ⟨id, r1, s ++ leB t.length 4, t, rfl, k1.1, by rw [List.length_append]; omega, fun r2 h2 k2 => ?_⟩
  simp (config := {maxSteps := 1000000}) only [tb100n_e, tb103n_e, i_callNe, Int.natCast_nonneg, Nat.le_refl, Int.le_refl, List.take_succ_cons, List.take_zero, decide_true, decide_false, Bool.and_false, Bool.false_and, zz, zzN, zzF, zzD, zzM, cond_true, cond_false, ↓reduceIte, Nat.reduceEqDiff, Nat.reduceBEq, Int.reduceLT, Int.reduceLE, Int.reduceToNat, Int.reduceEq, Int.reduceAdd, Int.reduceSub, Int.reduceMul, Int.reduceNeg, Nat.reduceMul, Nat.reduceSub, Nat.reduceLeDiff, Nat.reduceLT, Int.reduceGT, Int.reduceGE, Int.reduceBEq, Int.reduceBNe, reduceCtorEq, Nat.reduceAdd]
  exact ⟨r2, wrTo_trans (by rw [hw.1]; simp) k1 k2⟩
def aText (id : Nat) (args : List D) (t : List UInt8) : Prop := ∃ x, args = [.ptr id 1 0, .str x] ∧ t = leB x.length 4 ++ x
def c75n := wrC aText
theorem c75n_mono : type_of% (@wrC_mono aText) := @wrC_mono aText
theorem c75n_ok (args : List D) (h : AHeap) (K : D → AHeap → Prop) (c : c75n args h K) : ACalls Tryd.prog 75 args h fun o h' => ∃ d, o = .ret d ∧ K d h' :=
  wrC_ok (fun id r s t args h e a b => by obtain ⟨x, rfl, rfl⟩ := e; exact wtext_c id r s x h a b) args h K c
def tb75n : Tab := tb103n.addW 75 c75n c75n_mono
theorem tb75n_q : tb75n.q = tb103n.q := rfl
theorem tb75n_a : tb75n.a = tb103n.a := rfl
theorem tb75n_c (g : FuncId) (args : List D) (h : AHeap) (K E : D → AHeap → Prop) : tb75n.c g args h K E = if g = 75 then c75n args h K else tb103n.c g args h K E := rfl
theorem tb75n_ok : tb75n.ok Tryd.prog := Tab.addW_ok tb103n_ok c75n_ok
theorem tb75n_e : type_of% (And.intro (And.intro @tb75n_q (And.intro @tb75n_a @tb75n_c)) @tb103n_e) := (And.intro (And.intro @tb75n_q (And.intro @tb75n_a @tb75n_c)) @tb103n_e)

theorem wall_c (id r : Nat) (s : List UInt8) (h : AHeap) (hw : wrAt h id r s) : ACalls Tryd.prog 42 [.ptr id 1 0] h fun o h' => ∃ d, o = .ret d ∧ d = .str s := by
  refine ACalls.run (Tab.zero_ok _) st42n (by simp) fun E => ?_
  obtain ⟨h1, h2⟩ := hw
  by_cases s0n : s = []
  · subst s0n
    simp only [List.length_nil, ownD_zero] at h1
    simp (config := {maxSteps := 1000000}) only [s42n, h1, i_callNe, Int.natCast_nonneg, Nat.le_refl, Int.le_refl, List.take_succ_cons, List.take_zero, decide_true, decide_false, Bool.and_false, Bool.false_and, zz, zzN, zzF, zzD, zzM, cond_true, cond_false, ↓reduceIte, Nat.reduceEqDiff, Nat.reduceBEq, Int.reduceLT, Int.reduceLE, Int.reduceToNat, Int.reduceEq, Int.reduceAdd, Int.reduceSub, Int.reduceMul, Int.reduceNeg, Nat.reduceMul, Nat.reduceSub, Nat.reduceLeDiff, Nat.reduceLT, Int.reduceGT, Int.reduceGE, Int.reduceBEq, Int.reduceBNe, reduceCtorEq, Nat.reduceAdd]
  · have hl : s.length ≠ 0 := fun e => s0n (List.length_eq_zero_iff.1 e)
    obtain ⟨q, h2⟩ := h2 s0n
    have q' : ¬ id = r := fun e => q e.symm
    rw [ownD_pos hl] at h1
    simp (config := {maxSteps := 1000000}) only [s42n, h1, h2, q, q', i_callNe, Int.natCast_nonneg, Nat.le_refl, Int.le_refl, List.take_succ_cons, List.take_zero, decide_true, decide_false, Bool.and_false, Bool.false_and, zz, zzN, zzF, zzD, zzM, cond_true, cond_false, ↓reduceIte, Nat.reduceEqDiff, Nat.reduceBEq, Int.reduceLT, Int.reduceLE, Int.reduceToNat, Int.reduceEq, Int.reduceAdd, Int.reduceSub, Int.reduceMul, Int.reduceNeg, Nat.reduceMul, Nat.reduceSub, Nat.reduceLeDiff, Nat.reduceLT, Int.reduceGT, Int.reduceGE, Int.reduceBEq, Int.reduceBNe, reduceCtorEq, Nat.reduceAdd]
    exact List.take_length
def c42n (args : List D) (h : AHeap) (K : D → AHeap → Prop) : Prop := ∃ id r s, args = [.ptr id 1 0] ∧ wrAt h id r s ∧ ∀ h', K (.str s) h'
theorem c42n_mono (args : List D) (h : AHeap) (K K' : D → AHeap → Prop) (hk : ∀ d h, K d h → K' d h) (c : c42n args h K) : c42n args h K' := by
  obtain ⟨id, r, s, e, a, k⟩ := c
  exact ⟨id, r, s, e, a, fun h' => hk _ _ (k h')⟩
theorem c42n_ok (args : List D) (h : AHeap) (K : D → AHeap → Prop) (c : c42n args h K) : ACalls Tryd.prog 42 args h fun o h' => ∃ d, o = .ret d ∧ K d h' := by
  obtain ⟨id, r, s, rfl, a, k⟩ := c
  exact (wall_c id r s h a).mono fun o h' ⟨d, e1, e2⟩ => ⟨d, e1, by rw [e2]; exact k h'⟩
def tb42n : Tab := tb75n.addW 42 c42n c42n_mono
theorem tb42n_q : tb42n.q = tb75n.q := rfl
theorem tb42n_a : tb42n.a = tb75n.a := rfl
theorem tb42n_c (g : FuncId) (args : List D) (h : AHeap) (K E : D → AHeap → Prop) : tb42n.c g args h K E = if g = 42 then c42n args h K else tb75n.c g args h K E := rfl
theorem tb42n_ok : tb42n.ok Tryd.prog := Tab.addW_ok tb75n_ok c42n_ok
theorem tb42n_e : type_of% (And.intro (And.intro @tb42n_q (And.intro @tb42n_a @tb42n_c)) @tb75n_e) := (And.intro (And.intro @tb42n_q (And.intro @tb42n_a @tb42n_c)) @tb75n_e)

theorem newWriter_c (h : AHeap) : ACalls Tryd.prog 40 [] h fun o h' => ∃ id, h.f id = none ∧ o = .ret (.ptr id 1 0) ∧ h' = h.set id (.cells [.nilsl]) := by
  refine (ACalls.run (K := fun d h' => ∃ id, h.f id = none ∧ d = .ptr id 1 0 ∧ h' = h.set id (.cells [.nilsl])) (Tab.zero_ok _) st40n (by simp) fun E => ?_).mono fun o h' ⟨d, e, id, a, b, c⟩ => ⟨id, a, by rw [e, b], c⟩
  simp only [s40n, i_callNe, Int.natCast_nonneg, Nat.le_refl, Int.le_refl, List.take_succ_cons, List.take_zero, decide_true, decide_false, Bool.and_false, Bool.false_and, zz, zzN, zzF, zzD, zzM, cond_true, cond_false, ↓reduceIte, Nat.reduceEqDiff, Nat.reduceBEq, Int.reduceLT, Int.reduceLE, Int.reduceToNat, Int.reduceEq, Int.reduceAdd, Int.reduceSub, Int.reduceMul, Int.reduceNeg, Nat.reduceMul, Nat.reduceSub, Nat.reduceLeDiff, Nat.reduceLT, Int.reduceGT, Int.reduceGE, Int.reduceBEq, Int.reduceBNe, reduceCtorEq, Nat.reduceAdd]
  intro id hid
  exact ⟨id, hid, rfl, rfl⟩
def tb40n : Tab := tb42n.addA 40 [.nilsl]
theorem tb40n_q : tb40n.q = tb42n.q := rfl
theorem tb40n_a (g : FuncId) : tb40n.a g = if g = 40 then some [.nilsl] else tb42n.a g := rfl
theorem tb40n_c : tb40n.c = tb42n.c := rfl
theorem tb40n_ok : tb40n.ok Tryd.prog := Tab.addA_ok tb42n_ok newWriter_c
theorem tb40n_e : type_of% (And.intro (And.intro @tb40n_q (And.intro @tb40n_a @tb40n_c)) @tb42n_e) := (And.intro (And.intro @tb40n_q (And.intro @tb40n_a @tb40n_c)) @tb42n_e)

end Go.Proofs.YthpgepillaeldaaDoor.Zz
/- Contracts: a tree is put, and counted. -/
namespace Go.Proofs.YthpgepillaeldaaDoor.Zz
set_option linter.unusedVariables false
set_option linter.unusedSimpArgs false
set_option maxRecDepth 20000
def p41n : Plan := ⟨⟨[], [(1, 4), (2, 4), (3, 3), (4, 4), (5, 5), (9, 2)], [], [], [], []⟩, [], [], false⟩
/-- cupel/ast.Put (2 parameters, 0 captured) -/
def s41n : Stm :=
  .seq (.ops [⟨.box (.t 1), (some 3), none, false⟩])
  (.seq (.ops [⟨.mov (.t 0), (some 6), none, true⟩,
     ⟨.fieldAddr 0 (.t 3), (some 7), none, true⟩,
     ⟨.load none (.t 7), (some 8), none, false⟩,
     ⟨.conv (.intInt .u64) (.t 8), (some 9), none, true⟩,
     ⟨.call (.f 74) [(.t 6), (.t 9), (.c (.int .i64 1))], (some 10), none, false⟩])
  (.seq (.ops [⟨.mov (.t 0), (some 11), none, true⟩,
     ⟨.fieldAddr 1 (.t 3), (some 12), none, true⟩,
     ⟨.load none (.t 12), (some 13), none, false⟩,
     ⟨.conv (.intInt .u64) (.t 13), (some 14), none, true⟩,
     ⟨.call (.f 74) [(.t 11), (.t 14), (.c (.int .i64 1))], (some 15), none, false⟩])
  (.seq (.ops [⟨.mov (.t 0), (some 16), none, true⟩,
     ⟨.fieldAddr 2 (.t 3), (some 17), none, true⟩,
     ⟨.load none (.t 17), (some 18), none, false⟩,
     ⟨.call (.f 75) [(.t 16), (.t 18)], (some 19), none, false⟩])
  (.seq (.ops [⟨.mov (.t 0), (some 20), none, true⟩,
     ⟨.fieldAddr 3 (.t 3), (some 21), none, true⟩,
     ⟨.load none (.t 21), (some 22), none, false⟩,
     ⟨.conv (.intInt .u64) (.t 22), (some 23), none, true⟩,
     ⟨.call (.f 74) [(.t 20), (.t 23), (.c (.int .i64 8))], (some 24), none, false⟩])
  (.seq (.ops [⟨.mov (.t 0), (some 25), none, true⟩,
     ⟨.fieldAddr 4 (.t 3), (some 26), none, true⟩,
     ⟨.load none (.t 26), (some 27), none, false⟩,
     ⟨.len .sl (.t 27), (some 28), none, false⟩,
     ⟨.conv (.intInt .u64) (.t 28), (some 29), none, true⟩,
     ⟨.call (.f 74) [(.t 25), (.t 29), (.c (.int .i64 1))], (some 30), none, false⟩])
  (.seq (.ops [⟨.fieldAddr 4 (.t 3), (some 31), none, true⟩,
     ⟨.load none (.t 31), (some 32), none, false⟩,
     ⟨.len .sl (.t 32), (some 33), none, false⟩,
     ⟨.mov (.c (.int .i64 0)), (some 34), none, true⟩])
  (.block 0 (.loop (.seq (.ops [⟨.bin .lss (.t 34) (.t 33), (some 35), none, true⟩])
    (.seq (.cond (.t 35)
      (.skip)
      (.exit 0))
    (.seq (.block 1 (.seq (.ops [⟨.indexAddrS 5 (.t 32) (.t 34), (some 36), none, false⟩,
         ⟨.load (some 5) (.t 36), (some 37), none, false⟩,
         ⟨.alloc [(.int .i64 0), (.int .i64 0), (.str []), (.int .i64 0), .nilsl], (some 5), none, false⟩,
         ⟨.store 5 (.t 5) (.t 37), none, none, false⟩])
      (.ops [⟨.mov (.t 0), (some 38), none, true⟩,
        ⟨.load (some 5) (.t 5), (some 39), none, false⟩,
        ⟨.call (.f 41) [(.t 38), (.t 39)], (some 40), none, false⟩])))
    (.ops [⟨.bin .add (.t 34) (.c (.int .i64 1)), (some 41), none, true⟩,
      ⟨.mov (.t 41), (some 34), none, true⟩]))))))))))))
theorem st41n : stmOf Tryd.prog 41 p41n = some (s41n, [], 42) := by kernel_rfl

def p13n : Plan := ⟨⟨[], [(1, 0), (2, 2), (3, 1)], [], [], [], [(1, 0)]⟩, [], [], false⟩
/-- cupel/ast.Encode (1 parameters, 0 captured) -/
def s13n : Stm :=
  .seq (.ops [⟨.box (.t 0), (some 1), none, false⟩,
     ⟨.mov (.c (.str [])), (some 2), none, true⟩])
  (.seq (.ops [⟨.callA 40, (some 4), none, false⟩,
     ⟨.mov (.t 4), (some 3), none, true⟩])
  (.seq (.ops [⟨.mov (.t 3), (some 5), none, true⟩,
     ⟨.load (some 5) (.t 1), (some 6), none, false⟩,
     ⟨.call (.f 41) [(.t 5), (.t 6)], (some 7), none, false⟩])
  (.seq (.ops [⟨.mov (.t 3), (some 8), none, true⟩,
     ⟨.call (.f 42) [(.t 8)], (some 9), none, false⟩,
     ⟨.mov (.t 9), (some 2), none, true⟩])
  (.ret))))
theorem st13n : stmOf Tryd.prog 13 p13n = some (s13n, [.tmp 2], 10) := by kernel_rfl

def uB (k : Int) (m : Nat) : List UInt8 := leB (k % 18446744073709551616).toNat m
mutual
/-- A tree's bytes. -/
def encF : Nd → List UInt8
  | .mk k t s n l => uB k 1 ++ uB t 1 ++ (leB s.length 4 ++ s) ++ uB n 8 ++ leB l.length 1 ++ encFs l
def encFs : List Nd → List UInt8
  | [] => []
  | x :: l => encF x ++ encFs l
end
theorem encF_mk (k t : Int) (s : List UInt8) (n : Int) (l : List Nd) : encF (.mk k t s n l) = uB k 1 ++ uB t 1 ++ (leB s.length 4 ++ s) ++ uB n 8 ++ leB l.length 1 ++ encFs l := by rw [encF]
theorem encFs_nil : encFs [] = [] := by rw [encFs]
theorem encFs_cons (x : Nd) (l : List Nd) : encFs (x :: l) = encF x ++ encFs l := by rw [encFs]
theorem encFs_app (l r : List Nd) : encFs (l ++ r) = encFs l ++ encFs r := by
  induction l with
  | nil => rw [encFs_nil]; rfl
  | cons x l ih => rw [List.cons_append, encFs_cons, ih, encFs_cons, List.append_assoc]
theorem encFs_take {l : List Nd} {i : Nat} {x : Nd} (h : l[i]? = some x) : encFs (l.take (i + 1)) = encFs (l.take i) ++ encF x := by
  rw [List.take_add_one, h, encFs_app]; simp [encFs_cons, encFs_nil]
theorem encFs_le (l : List Nd) (i : Nat) : (encFs (l.take i)).length ≤ (encFs l).length := by
  have := congrArg List.length (congrArg encFs (List.take_append_drop i l))
  rw [encFs_app, List.length_append] at this; omega
theorem wrTo_keep {h h' : AHeap} {id r r' j : Nat} {s t : List UInt8} {o : AObj} (a : wrTo h h' id r r' s t) (hj : h.f j = some o) (n1 : j ≠ id) (n2 : s ≠ [] → j ≠ r) : h'.f j = some o := by
  rw [a.2.2.2 j (by rw [hj]; simp) n1 n2]; exact hj
theorem wrAt_set {h : AHeap} {id r i : Nat} {s : List UInt8} {o : AObj} (hn : h.f i = none) (a : wrAt h id r s) : wrAt (h.set i o) id r s := by
  have e1 : ¬ id = i := fun e => by subst e; rw [a.1] at hn; cases hn
  refine ⟨by rw [AHeap.set_f, if_neg e1]; exact a.1, fun s0n => ⟨(a.2 s0n).1, ?_⟩⟩
  have e2 : ¬ r = i := fun e => by subst e; rw [(a.2 s0n).2] at hn; cases hn
  rw [AHeap.set_f, if_neg e2]; exact (a.2 s0n).2
def aPut (f : Nat) (id : Nat) (args : List D) (t : List UInt8) : Prop := ∃ n : Nd, n.cnt < f ∧ args = [.ptr id 1 0, .agg n.enc] ∧ t = encF n
def c41n (f : Nat) := wrC (aPut f)
theorem c41n_mono (f : Nat) : type_of% (@wrC_mono (aPut f)) := @wrC_mono (aPut f)
set_option maxHeartbeats 1000000 in
theorem put_c (f : Nat) (hT : (tb40n.addW 41 (c41n f) (c41n_mono f)).ok Tryd.prog) (id r : Nat) (s : List UInt8) (n : Nd) (hn : n.cnt < f + 1) (h : AHeap) (hw : wrAt h id r s) (hb : s.length + (encF n).length ≤ 140737488355328) :
    ACalls Tryd.prog 41 [.ptr id 1 0, .agg n.enc] h fun o h' => ∃ d, o = .ret d ∧ d = .tuple [] ∧ ∃ r', wrTo h h' id r r' s (encF n) := by
  obtain ⟨k, t, x, m, l⟩ := n
  refine ACalls.run hT st41n (by simp) fun E => ?_
  have hT_q : ∀ g args h K E, (tb40n.addW 41 (c41n f) (c41n_mono f)).c g args h K E = if g = 41 then c41n f args h K else tb40n.c g args h K E := fun g args h K E => rfl
  generalize tb40n.addW 41 (c41n f) (c41n_mono f) = TT at hT_q ⊢
  have hl : ∀ n m, (leB n m).length = m := len_leB
  have hu : ∀ n m, (uB n m).length = m := fun n m => len_leB _ _
  have hcnt : ∀ y ∈ l, y.cnt < f := fun y hy => by have := cnt_kid (k := k) (t := t) (s := x) (n := m) hy; omega
  rw [encF_mk] at hb ⊢
  simp only [List.length_append, hl, hu] at hb
  rw [enc_mk]
  have hw64 : ∀ k : Int, IntKind.u64.wrap k = ((k % 18446744073709551616).toNat : Int) := fun k => by rw [wrap_u64_mod]; omega
  have hlt : ∀ k : Int, (k % 18446744073709551616).toNat < 2 ^ 64 := fun k => by omega
  simp (config := {maxSteps := 1000000}) only [s41n, hw64, hT_q, tb100n_e, tb40n_e, i_callNe, Int.natCast_nonneg, Nat.le_refl, Int.le_refl, List.take_succ_cons, List.take_zero, decide_true, decide_false, Bool.and_false, Bool.false_and, zz, zzN, zzF, zzD, zzM, cond_true, cond_false, ↓reduceIte, Nat.reduceEqDiff, Nat.reduceBEq, Int.reduceLT, Int.reduceLE, Int.reduceToNat, Int.reduceEq, Int.reduceAdd, Int.reduceSub, Int.reduceMul, Int.reduceNeg, Nat.reduceMul, Nat.reduceSub, Nat.reduceLeDiff, Nat.reduceLT, Int.reduceGT, Int.reduceGE, Int.reduceBEq, Int.reduceBNe, reduceCtorEq, Nat.reduceAdd]
  intro i3 k3
  have n3 : ¬ i3 = id := fun e => by subst e; rw [hw.1] at k3; cases k3
  have n3' : ¬ id = i3 := fun e => n3 e.symm
  have v3 : (h.set i3 (.cells [.int .i64 k, .int .i64 t, .str x, .int .i64 m, .sl (Nd.encs l)])).f i3 = some (.cells [.int .i64 k, .int .i64 t, .str x, .int .i64 m, .sl (Nd.encs l)]) := by rw [AHeap.set_f, if_pos rfl]
  have nr : s ≠ [] → i3 ≠ r := fun s0n e => by subst e; rw [(hw.2 s0n).2] at k3; cases k3
  have hw0 : wrAt (h.set i3 (.cells [.int .i64 k, .int .i64 t, .str x, .int .i64 m, .sl (Nd.encs l)])) id r s := ⟨by rw [AHeap.set_f, if_neg n3']; exact hw.1, fun s0n => ⟨(hw.2 s0n).1, by rw [AHeap.set_f, if_neg (fun e => nr s0n e.symm)]; exact (hw.2 s0n).2⟩⟩
  have hpre : ∀ h2 r2, wrTo (h.set i3 (.cells [.int .i64 k, .int .i64 t, .str x, .int .i64 m, .sl (Nd.encs l)])) h2 id r r2 s _ → wrTo h h2 id r r2 s _ := fun h2 r2 => wrTo_pre (t := uB k 1 ++ uB t 1 ++ (leB x.length 4 ++ x) ++ uB m 8 ++ leB l.length 1 ++ encFs l) k3
  generalize h.set i3 (.cells [.int .i64 k, .int .i64 t, .str x, .int .i64 m, .sl (Nd.encs l)]) = h0 at *
  have hi0 : h0.f id ≠ none := by rw [hw0.1]; simp
  refine ⟨id, r, s, uB k 1, ⟨_, 1, hlt k, rfl, rfl⟩, hw0, by rw [hu]; omega, fun r1 h1 a1 => ?_⟩
  have v1 := wrTo_keep a1 v3 n3 nr
  simp (config := {maxSteps := 1000000}) only [hw64, v1, hT_q, tb100n_e, tb40n_e, i_callNe, Int.natCast_nonneg, Nat.le_refl, Int.le_refl, List.take_succ_cons, List.take_zero, decide_true, decide_false, Bool.and_false, Bool.false_and, zz, zzN, zzF, zzD, zzM, cond_true, cond_false, ↓reduceIte, Nat.reduceEqDiff, Nat.reduceBEq, Int.reduceLT, Int.reduceLE, Int.reduceToNat, Int.reduceEq, Int.reduceAdd, Int.reduceSub, Int.reduceMul, Int.reduceNeg, Nat.reduceMul, Nat.reduceSub, Nat.reduceLeDiff, Nat.reduceLT, Int.reduceGT, Int.reduceGE, Int.reduceBEq, Int.reduceBNe, reduceCtorEq, Nat.reduceAdd]
  refine ⟨id, r1, _, uB t 1, ⟨_, 1, hlt t, rfl, rfl⟩, a1.1, by simp only [List.length_append, hl, hu]; omega, fun r2 h2 b2 => ?_⟩
  have a2 := wrTo_trans hi0 a1 b2
  clear a1 b2
  have v2 := wrTo_keep a2 v3 n3 nr
  simp (config := {maxSteps := 1000000}) only [hw64, v2, hT_q, tb100n_e, tb40n_e, i_callNe, Int.natCast_nonneg, Nat.le_refl, Int.le_refl, List.take_succ_cons, List.take_zero, decide_true, decide_false, Bool.and_false, Bool.false_and, zz, zzN, zzF, zzD, zzM, cond_true, cond_false, ↓reduceIte, Nat.reduceEqDiff, Nat.reduceBEq, Int.reduceLT, Int.reduceLE, Int.reduceToNat, Int.reduceEq, Int.reduceAdd, Int.reduceSub, Int.reduceMul, Int.reduceNeg, Nat.reduceMul, Nat.reduceSub, Nat.reduceLeDiff, Nat.reduceLT, Int.reduceGT, Int.reduceGE, Int.reduceBEq, Int.reduceBNe, reduceCtorEq, Nat.reduceAdd]
  refine ⟨id, r2, _, leB x.length 4 ++ x, ⟨_, rfl, rfl⟩, a2.1, by simp only [List.length_append, hl, hu]; omega, fun r3 h3 b3 => ?_⟩
  have a3 := wrTo_trans hi0 a2 b3
  clear a2 b3
  have v3' := wrTo_keep a3 v3 n3 nr
  simp (config := {maxSteps := 1000000}) only [hw64, v3', hT_q, tb100n_e, tb40n_e, i_callNe, Int.natCast_nonneg, Nat.le_refl, Int.le_refl, List.take_succ_cons, List.take_zero, decide_true, decide_false, Bool.and_false, Bool.false_and, zz, zzN, zzF, zzD, zzM, cond_true, cond_false, ↓reduceIte, Nat.reduceEqDiff, Nat.reduceBEq, Int.reduceLT, Int.reduceLE, Int.reduceToNat, Int.reduceEq, Int.reduceAdd, Int.reduceSub, Int.reduceMul, Int.reduceNeg, Nat.reduceMul, Nat.reduceSub, Nat.reduceLeDiff, Nat.reduceLT, Int.reduceGT, Int.reduceGE, Int.reduceBEq, Int.reduceBNe, reduceCtorEq, Nat.reduceAdd]
  refine ⟨id, r3, _, uB m 8, ⟨_, 8, hlt m, rfl, rfl⟩, a3.1, by simp only [List.length_append, hl, hu]; omega, fun r4 h4 b4 => ?_⟩
  have a4 := wrTo_trans hi0 a3 b4
  clear a3 b4
  have v4 := wrTo_keep a4 v3 n3 nr
  simp (config := {maxSteps := 1000000}) only [hw64, v4, hT_q, tb100n_e, tb40n_e, i_callNe, Int.natCast_nonneg, Nat.le_refl, Int.le_refl, List.take_succ_cons, List.take_zero, decide_true, decide_false, Bool.and_false, Bool.false_and, zz, zzN, zzF, zzD, zzM, cond_true, cond_false, ↓reduceIte, Nat.reduceEqDiff, Nat.reduceBEq, Int.reduceLT, Int.reduceLE, Int.reduceToNat, Int.reduceEq, Int.reduceAdd, Int.reduceSub, Int.reduceMul, Int.reduceNeg, Nat.reduceMul, Nat.reduceSub, Nat.reduceLeDiff, Nat.reduceLT, Int.reduceGT, Int.reduceGE, Int.reduceBEq, Int.reduceBNe, reduceCtorEq, Nat.reduceAdd]
  intro hlen
  rw [len_encs] at hlen
  have e5 : ((l.length : Int) % 18446744073709551616).toNat = l.length := by omega
  refine ⟨id, r4, _, leB l.length 1, ⟨_, 1, hlt _, rfl, by rw [len_encs, e5]; rfl⟩, a4.1, by simp only [List.length_append, hl, hu]; omega, fun r5 h5 b5 => ?_⟩
  have a5 := wrTo_trans hi0 a4 b5
  clear a4 b5
  have v5 := wrTo_keep a5 v3 n3 nr
  simp (config := {maxSteps := 1000000}) only [hw64, v5, hT_q, tb100n_e, tb40n_e, i_callNe, Int.natCast_nonneg, Nat.le_refl, Int.le_refl, List.take_succ_cons, List.take_zero, decide_true, decide_false, Bool.and_false, Bool.false_and, zz, zzN, zzF, zzD, zzM, cond_true, cond_false, ↓reduceIte, Nat.reduceEqDiff, Nat.reduceBEq, Int.reduceLT, Int.reduceLE, Int.reduceToNat, Int.reduceEq, Int.reduceAdd, Int.reduceSub, Int.reduceMul, Int.reduceNeg, Nat.reduceMul, Nat.reduceSub, Nat.reduceLeDiff, Nat.reduceLT, Int.reduceGT, Int.reduceGE, Int.reduceBEq, Int.reduceBNe, reduceCtorEq, Nat.reduceAdd]
  intro _
  generalize hacc : uB k 1 ++ uB t 1 ++ (leB x.length 4 ++ x) ++ uB m 8 ++ leB l.length 1 = acc at *
  have lacc : acc.length = 14 + x.length + 1 := by rw [← hacc]; simp only [List.length_append, hl, hu]; omega
  refine run_loop (X := Nat × Nat × AHeap) (fun z => [(0, .ptr id 1 0), (32, .sl (Nd.encs l)), (33, .int .i64 l.length), (34, .int .i64 z.1)])
    (fun z => z.2.2) (fun z => l.length - z.1) (fun z => z.1 ≤ l.length ∧ wrTo h0 z.2.2 id r z.2.1 s (acc ++ encFs (l.take z.1))) (0, r5, h5) ⟨Nat.zero_le _, by rw [List.take_zero, encFs_nil, List.append_nil]; exact a5⟩ ?_ ?_ ?_
  · simp only [len_encs, i_callNe, Int.natCast_nonneg, Nat.le_refl, Int.le_refl, List.take_succ_cons, List.take_zero, decide_true, decide_false, Bool.and_false, Bool.false_and, zz, zzN, zzF, zzD, zzM, cond_true, cond_false, ↓reduceIte, Nat.reduceEqDiff, Nat.reduceBEq, Int.reduceLT, Int.reduceLE, Int.reduceToNat, Int.reduceEq, Int.reduceAdd, Int.reduceSub, Int.reduceMul, Int.reduceNeg, Nat.reduceMul, Nat.reduceSub, Nat.reduceLeDiff, Nat.reduceLT, Int.reduceGT, Int.reduceGE, Int.reduceBEq, Int.reduceBNe, reduceCtorEq, Nat.reduceAdd]
  · exact AHeap.sub_refl _
  clear a5 v5 v4 v3' v2 v1
  rintro ⟨i, rr, hh⟩ Q ⟨j0, j1⟩ hQ
  simp only at j0 j1 hQ ⊢
  cases c : decide (i < l.length) with
  | false =>
    have e0 : i = l.length := by simp at c; omega
    have g : ((i : Int) < l.length) = False := eq_false (by omega)
    simp (config := {maxSteps := 1000000}) only [g, hT_q, tb100n_e, tb40n_e, i_callNe, Int.natCast_nonneg, Nat.le_refl, Int.le_refl, List.take_succ_cons, List.take_zero, decide_true, decide_false, Bool.and_false, Bool.false_and, zz, zzN, zzF, zzD, zzM, cond_true, cond_false, ↓reduceIte, Nat.reduceEqDiff, Nat.reduceBEq, Int.reduceLT, Int.reduceLE, Int.reduceToNat, Int.reduceEq, Int.reduceAdd, Int.reduceSub, Int.reduceMul, Int.reduceNeg, Nat.reduceMul, Nat.reduceSub, Nat.reduceLeDiff, Nat.reduceLT, Int.reduceGT, Int.reduceGE, Int.reduceBEq, Int.reduceBNe, reduceCtorEq, Nat.reduceAdd]
    refine ⟨rr, hpre _ _ ?_⟩
    rw [e0, List.take_length] at j1
    exact j1
  | true =>
    have c : i < l.length := by simpa using c
    obtain ⟨y, hy⟩ : ∃ y, l[i]? = some y := ⟨_, List.getElem?_eq_getElem c⟩
    have g : ((i : Int) < l.length) = True := eq_true (by omega)
    have hym : y ∈ l := List.mem_of_getElem? hy
    have wi : IntKind.i64.wrap ((i : Int) + 1) = ((i + 1 : Nat) : Int) := wrap_succ (by omega)
    have hp := part_enc y
    have ha := askE_encs (K := fun d h => True) (h := hh) hy
    have hyF := encFs_take hy
    have hyl := encFs_le l (i + 1)
    have hyc := hcnt y hym
    have hac : ∀ (K : D → AHeap → Prop) (h : AHeap), askE 5 K h (Nd.encs l) (i : Int) = K (.eptr y.enc 0) h := fun K h => askE_encs hy
    clear ha
    rw [hyF, List.length_append] at hyl
    have hye : y.enc = Nd.enc y := rfl
    generalize hz : encF y = ye at *
    have hA : aPut f id [.ptr id 1 0, .agg y.enc] ye := ⟨y, hyc, rfl, hz.symm⟩
    clear hyc hcnt hz hym hy hye
    obtain ⟨yk, yt, yx, ym, yl⟩ := y
    rw [enc_mk] at *
    simp (config := {maxSteps := 1000000}) only [g, hac, hp, wi, hT_q, tb100n_e, tb40n_e, i_callNe, Int.natCast_nonneg, Nat.le_refl, Int.le_refl, List.take_succ_cons, List.take_zero, decide_true, decide_false, Bool.and_false, Bool.false_and, zz, zzN, zzF, zzD, zzM, cond_true, cond_false, ↓reduceIte, Nat.reduceEqDiff, Nat.reduceBEq, Int.reduceLT, Int.reduceLE, Int.reduceToNat, Int.reduceEq, Int.reduceAdd, Int.reduceSub, Int.reduceMul, Int.reduceNeg, Nat.reduceMul, Nat.reduceSub, Nat.reduceLeDiff, Nat.reduceLT, Int.reduceGT, Int.reduceGE, Int.reduceBEq, Int.reduceBNe, reduceCtorEq, Nat.reduceAdd]
    intro i5 k5
    refine ⟨id, rr, _, ye, hA, wrAt_set k5 j1.1, by simp only [List.length_append, hl, hu] at hyl hb ⊢; omega, fun r6 h6 b6 => ?_⟩
    have a6 := wrTo_trans hi0 j1 (wrTo_pre k5 b6)
    simp (config := {maxSteps := 1000000}) only [wi, hT_q, tb100n_e, tb40n_e, i_callNe, Int.natCast_nonneg, Nat.le_refl, Int.le_refl, List.take_succ_cons, List.take_zero, decide_true, decide_false, Bool.and_false, Bool.false_and, zz, zzN, zzF, zzD, zzM, cond_true, cond_false, ↓reduceIte, Nat.reduceEqDiff, Nat.reduceBEq, Int.reduceLT, Int.reduceLE, Int.reduceToNat, Int.reduceEq, Int.reduceAdd, Int.reduceSub, Int.reduceMul, Int.reduceNeg, Nat.reduceMul, Nat.reduceSub, Nat.reduceLeDiff, Nat.reduceLT, Int.reduceGT, Int.reduceGE, Int.reduceBEq, Int.reduceBNe, reduceCtorEq, Nat.reduceAdd]
    refine hQ (i + 1, r6, h6) _ _ ⟨c, ?_⟩ (by simp only [wi, i_callNe, Int.natCast_nonneg, Nat.le_refl, Int.le_refl, List.take_succ_cons, List.take_zero, decide_true, decide_false, Bool.and_false, Bool.false_and, zz, zzN, zzF, zzD, zzM, cond_true, cond_false, ↓reduceIte, Nat.reduceEqDiff, Nat.reduceBEq, Int.reduceLT, Int.reduceLE, Int.reduceToNat, Int.reduceEq, Int.reduceAdd, Int.reduceSub, Int.reduceMul, Int.reduceNeg, Nat.reduceMul, Nat.reduceSub, Nat.reduceLeDiff, Nat.reduceLT, Int.reduceGT, Int.reduceGE, Int.reduceBEq, Int.reduceBNe, reduceCtorEq, Nat.reduceAdd]) (AHeap.sub_refl _) (by simp only; omega)
    rw [hyF, ← List.append_assoc]
    exact a6
theorem tbP_ok : ∀ f, (tb40n.addW 41 (c41n f) (c41n_mono f)).ok Tryd.prog
  | 0 => Tab.addW_ok tb40n_ok (fun args h K c => by
    obtain ⟨id, r, s, t, ⟨n, hn, _⟩, _⟩ := c
    omega)
  | f + 1 => Tab.addW_ok tb40n_ok (wrC_ok fun id r s t args h e a b => by
    obtain ⟨n, hn, rfl, rfl⟩ := e
    exact put_c f (tbP_ok f) id r s n hn h a b)
def aPutT (id : Nat) (args : List D) (t : List UInt8) : Prop := ∃ n : Nd, args = [.ptr id 1 0, .agg n.enc] ∧ t = encF n
def c41t := wrC aPutT
theorem c41t_mono : type_of% (@wrC_mono aPutT) := @wrC_mono aPutT
theorem c41t_ok (args : List D) (h : AHeap) (K : D → AHeap → Prop) (c : c41t args h K) : ACalls Tryd.prog 41 args h fun o h' => ∃ d, o = .ret d ∧ K d h' :=
  wrC_ok (fun id r s t args h e a b => by obtain ⟨n, rfl, rfl⟩ := e; exact put_c n.cnt (tbP_ok n.cnt) id r s n (Nat.lt_succ_self _) h a b) args h K c
def tb41n : Tab := tb40n.addW 41 c41t c41t_mono
theorem tb41n_q : tb41n.q = tb40n.q := rfl
theorem tb41n_a : tb41n.a = tb40n.a := rfl
theorem tb41n_c (g : FuncId) (args : List D) (h : AHeap) (K E : D → AHeap → Prop) : tb41n.c g args h K E = if g = 41 then c41t args h K else tb40n.c g args h K E := rfl
theorem tb41n_ok : tb41n.ok Tryd.prog := Tab.addW_ok tb40n_ok c41t_ok
theorem tb41n_e : type_of% (And.intro (And.intro @tb41n_q (And.intro @tb41n_a @tb41n_c)) @tb40n_e) := (And.intro (And.intro @tb41n_q (And.intro @tb41n_a @tb41n_c)) @tb40n_e)

theorem encode_c (n : Nd) (hn : (encF n).length ≤ 140737488355328) : PCall Tryd.prog 13 [.agg n.enc] (.str (encF n)) := by
  refine PCall.run tb41n_ok st13n (by simp) fun E => ?_
  generalize hz : encF n = ye at *
  have hA : ∀ id, aPutT id [.ptr id 1 0, .agg n.enc] ye := fun id => ⟨n, rfl, hz.symm⟩
  have hp := part_enc n
  clear hz
  obtain ⟨k, t, x, m, l⟩ := n
  rw [enc_mk] at *
  simp (config := {maxSteps := 1000000}) only [s13n, hp, tb100n_e, tb41n_e, i_callNe, Int.natCast_nonneg, Nat.le_refl, Int.le_refl, List.take_succ_cons, List.take_zero, decide_true, decide_false, Bool.and_false, Bool.false_and, zz, zzN, zzF, zzD, zzM, cond_true, cond_false, ↓reduceIte, Nat.reduceEqDiff, Nat.reduceBEq, Int.reduceLT, Int.reduceLE, Int.reduceToNat, Int.reduceEq, Int.reduceAdd, Int.reduceSub, Int.reduceMul, Int.reduceNeg, Nat.reduceMul, Nat.reduceSub, Nat.reduceLeDiff, Nat.reduceLT, Int.reduceGT, Int.reduceGE, Int.reduceBEq, Int.reduceBNe, reduceCtorEq, Nat.reduceAdd]
  intro i j n1 n2
  simp (config := {maxSteps := 1000000}) only [n1, n2, tb100n_e, tb41n_e, i_callNe, Int.natCast_nonneg, Nat.le_refl, Int.le_refl, List.take_succ_cons, List.take_zero, decide_true, decide_false, Bool.and_false, Bool.false_and, zz, zzN, zzF, zzD, zzM, cond_true, cond_false, ↓reduceIte, Nat.reduceEqDiff, Nat.reduceBEq, Int.reduceLT, Int.reduceLE, Int.reduceToNat, Int.reduceEq, Int.reduceAdd, Int.reduceSub, Int.reduceMul, Int.reduceNeg, Nat.reduceMul, Nat.reduceSub, Nat.reduceLeDiff, Nat.reduceLT, Int.reduceGT, Int.reduceGE, Int.reduceBEq, Int.reduceBNe, reduceCtorEq, Nat.reduceAdd]
  refine ⟨j, 0, [], ye, hA j, ⟨by simp [AHeap.set_f, ownD], fun h => absurd rfl h⟩, by simpa using hn, fun r' h' k => ?_⟩
  simp (config := {maxSteps := 1000000}) only [tb100n_e, tb41n_e, i_callNe, Int.natCast_nonneg, Nat.le_refl, Int.le_refl, List.take_succ_cons, List.take_zero, decide_true, decide_false, Bool.and_false, Bool.false_and, zz, zzN, zzF, zzD, zzM, cond_true, cond_false, ↓reduceIte, Nat.reduceEqDiff, Nat.reduceBEq, Int.reduceLT, Int.reduceLE, Int.reduceToNat, Int.reduceEq, Int.reduceAdd, Int.reduceSub, Int.reduceMul, Int.reduceNeg, Nat.reduceMul, Nat.reduceSub, Nat.reduceLeDiff, Nat.reduceLT, Int.reduceGT, Int.reduceGE, Int.reduceBEq, Int.reduceBNe, reduceCtorEq, Nat.reduceAdd]
  refine ⟨j, r', ye, rfl, k.1, fun h2 => ?_⟩
  simp (config := {maxSteps := 1000000}) only [tb100n_e, tb41n_e, i_callNe, Int.natCast_nonneg, Nat.le_refl, Int.le_refl, List.take_succ_cons, List.take_zero, decide_true, decide_false, Bool.and_false, Bool.false_and, zz, zzN, zzF, zzD, zzM, cond_true, cond_false, ↓reduceIte, Nat.reduceEqDiff, Nat.reduceBEq, Int.reduceLT, Int.reduceLE, Int.reduceToNat, Int.reduceEq, Int.reduceAdd, Int.reduceSub, Int.reduceMul, Int.reduceNeg, Nat.reduceMul, Nat.reduceSub, Nat.reduceLeDiff, Nat.reduceLT, Int.reduceGT, Int.reduceGE, Int.reduceBEq, Int.reduceBNe, reduceCtorEq, Nat.reduceAdd]
noncomputable def q13n : List D → Option D
  | [.agg ds] => match decN ds with
    | some n => if (encF n).length ≤ 140737488355328 then some (.str (encF n)) else none
    | none => none
  | _ => none
theorem q13n_ok (args : List D) (d : D) (h : q13n args = some d) : PCall Tryd.prog 13 args d := by
  unfold q13n at h
  split at h
  · split at h
    · rename_i e
      split at h
      · cases h
        rw [decN_some e]
        exact encode_c _ (by assumption)
      · cases h
    · cases h
  · cases h
end Go.Proofs.YthpgepillaeldaaDoor.Zz
