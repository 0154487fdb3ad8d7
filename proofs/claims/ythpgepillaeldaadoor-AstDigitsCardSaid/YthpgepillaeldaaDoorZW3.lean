/- Contracts: the wire's writer. -/
import Derived.Test.YthpgepillaeldaaDoorZA2
namespace Go.Proofs.YthpgepillaeldaaDoor.Zz
set_option linter.unusedVariables false
set_option linter.unusedSimpArgs false
set_option maxRecDepth 20000
def p40n : Plan := ⟨⟨[], [], [], [], [], []⟩, []⟩
/-- cupel/wire.NewWriter (0 parameters, 0 captured) -/
def s40n : Stm :=
  .seq (.ops [⟨.mov (.c .nilptr), (some 0), none, true⟩])
  (.seq (.ops [⟨.build [.nilsl] [], (some 1), none, true⟩,
     ⟨.box (.t 1), (some 2), none, false⟩,
     ⟨.mov (.t 2), (some 0), none, true⟩])
  (.ret))
theorem st40n : stmOf Tryd.prog 40 p40n = some (s40n, [.tmp 0], 3) := by kernel_rfl

def p101n : Plan := ⟨⟨[], [], [], [], [], []⟩, []⟩
/-- (*cupel/wire.Writer).Bytes (2 parameters, 0 captured) -/
def s101n : Stm :=
  .seq (.ops [⟨.mov (.t 0), (some 4), none, true⟩,
     ⟨.eql .ptr true (.t 4) (.c .nilptr), (some 5), none, true⟩])
  (.cond (.t 5)
   (.ops [⟨.mov (.t 0), (some 6), none, true⟩,
      ⟨.mov (.t 0), (some 7), none, true⟩,
      ⟨.nilCheck (.t 7), (some 8), none, true⟩,
      ⟨.fieldAddr 0 (.t 8), (some 9), none, true⟩,
      ⟨.load none (.t 9), (some 10), none, false⟩,
      ⟨.mov (.t 1), (some 11), none, true⟩,
      ⟨.append 1 1 true (.t 10) (.t 11), (some 12), none, false⟩,
      ⟨.nilCheck (.t 6), (some 13), none, true⟩,
      ⟨.fieldAddr 0 (.t 13), (some 14), none, true⟩,
      ⟨.store 1 (.t 14) (.t 12), none, none, false⟩])
   (.skip))
theorem st101n : stmOf Tryd.prog 101 p101n = some (s101n, [], 15) := by kernel_rfl

def p74n : Plan := ⟨⟨[], [(0, 4)], [], [], [], []⟩, []⟩
/-- (*cupel/wire.Writer).Number (3 parameters, 0 captured) -/
def s74n : Stm :=
  .ops [⟨.mov (.t 0), (some 6), none, true⟩,
    ⟨.mov (.t 1), (some 7), none, true⟩,
    ⟨.mov (.t 2), (some 8), none, true⟩,
    ⟨.qcall (.f 102) [(.t 7), (.t 8)], (some 9), none, false⟩,
    ⟨.call (.f 101) [(.t 6), (.t 9)], (some 10), none, false⟩]
theorem st74n : stmOf Tryd.prog 74 p74n = some (s74n, [], 11) := by kernel_rfl

def p103n : Plan := ⟨⟨[], [(0, 4)], [], [], [], []⟩, []⟩
/-- (*cupel/wire.Writer).Count (2 parameters, 0 captured) -/
def s103n : Stm :=
  .ops [⟨.mov (.t 0), (some 4), none, true⟩,
    ⟨.mov (.t 1), (some 5), none, true⟩,
    ⟨.minmax true (.t 5) (.c (.int .i64 0)), (some 6), none, true⟩,
    ⟨.conv (.intInt .u64) (.t 6), (some 7), none, true⟩,
    ⟨.call (.f 74) [(.t 4), (.t 7), (.c (.int .i64 4))], (some 8), none, false⟩]
theorem st103n : stmOf Tryd.prog 103 p103n = some (s103n, [], 9) := by kernel_rfl

def p75n : Plan := ⟨⟨[], [(0, 3), (1, 2)], [], [], [], []⟩, []⟩
/-- (*cupel/wire.Writer).Text (2 parameters, 0 captured) -/
def s75n : Stm :=
  .seq (.ops [⟨.mov (.t 0), (some 4), none, true⟩,
     ⟨.mov (.t 1), (some 5), none, true⟩,
     ⟨.len .str (.t 5), (some 6), none, false⟩,
     ⟨.call (.f 103) [(.t 4), (.t 6)], (some 7), none, false⟩])
  (.ops [⟨.mov (.t 0), (some 8), none, true⟩,
    ⟨.mov (.t 1), (some 9), none, true⟩,
    ⟨.call (.f 101) [(.t 8), (.t 9)], (some 10), none, false⟩])
theorem st75n : stmOf Tryd.prog 75 p75n = some (s75n, [], 11) := by kernel_rfl

def p42n : Plan := ⟨⟨[], [], [], [], [], []⟩, []⟩
/-- (*cupel/wire.Writer).All (1 parameters, 0 captured) -/
def s42n : Stm :=
  .seq (.ops [⟨.mov (.c (.str [])), (some 2), none, true⟩])
  (.seq (.seq (.ops [⟨.mov (.t 0), (some 3), none, true⟩,
      ⟨.eql .ptr false (.t 3) (.c .nilptr), (some 4), none, true⟩])
   (.cond (.t 4)
    (.seq (.ops [⟨.mov (.c (.str [])), (some 2), none, true⟩])
     (.ret))
    (.skip)))
  (.seq (.ops [⟨.mov (.t 0), (some 5), none, true⟩,
     ⟨.nilCheck (.t 5), (some 6), none, true⟩,
     ⟨.fieldAddr 0 (.t 6), (some 7), none, true⟩,
     ⟨.load none (.t 7), (some 8), none, false⟩,
     ⟨.conv .bytesStr (.t 8), (some 9), none, false⟩,
     ⟨.mov (.t 9), (some 2), none, true⟩])
  (.ret)))
theorem st42n : stmOf Tryd.prog 42 p42n = some (s42n, [.tmp 2], 10) := by kernel_rfl

/-- A writer that holds bytes. -/
def wrAt (h : AHeap) (id r : Nat) (s : List UInt8) : Prop := h.f id = some (.cells [ownD r s.length]) ∧ (s ≠ [] → r ≠ id ∧ h.f r = some (.row 1 (s.length + 2) (encB s) false))
/-- What it holds behind so many bytes more. -/
def wrTo (h h' : AHeap) (id r r' : Nat) (s t : List UInt8) : Prop :=
  wrAt h' id r' (s ++ t) ∧ (s ≠ [] → r' = r) ∧ (s = [] → t ≠ [] → h.f r' = none) ∧ ∀ j, h.f j ≠ none → j ≠ id → (s ≠ [] → j ≠ r) → h'.f j = h.f j
theorem wrTo_trans {h h1 h2 : AHeap} {id r r1 r2 : Nat} {s t u : List UInt8} (hi : h.f id ≠ none) (a : wrTo h h1 id r r1 s t) (b : wrTo h1 h2 id r1 r2 (s ++ t) u) : wrTo h h2 id r r2 s (t ++ u) := by
  obtain ⟨a1, a2, a3, a4⟩ := a
  obtain ⟨b1, b2, b3, b4⟩ := b
  refine ⟨by rw [← List.append_assoc]; exact b1, fun hs => ?_, fun hs ht => ?_, fun j hj hji hjr => ?_⟩
  · rw [b2 (by simp [hs]), a2 hs]
  · subst hs
    by_cases t0 : t = []
    · subst t0
      have hn := b3 rfl (by simpa using ht)
      by_cases e : h.f r2 = none
      · exact e
      · exfalso
        by_cases e2 : r2 = id
        · subst e2; rw [a1.1] at hn; cases hn
        · exact e ((a4 r2 e e2 (fun k => absurd rfl k)).symm.trans hn)
    · rw [b2 (by simpa using t0)]
      exact a3 rfl t0
  · have e1 := a4 j hj hji hjr
    have e2 := b4 j (by rw [e1]; exact hj) hji (fun hst => by
      by_cases s0n : s = []
      · subst s0n
        have := a3 rfl (by simpa using hst)
        exact fun e => hj (by rw [e]; exact this)
      · rw [a2 s0n]; exact hjr s0n)
    rw [e2, e1]
theorem wrTo_pre {h h2 : AHeap} {id r r2 i : Nat} {s t : List UInt8} {o : AObj} (hn : h.f i = none) (a : wrTo (h.set i o) h2 id r r2 s t) : wrTo h h2 id r r2 s t := by
  obtain ⟨a1, a2, a3, a4⟩ := a
  refine ⟨a1, a2, fun hs ht => ?_, fun j hj hji hjr => ?_⟩
  · have := a3 hs ht
    rw [AHeap.set_f] at this
    split at this
    · cases this
    · exact this
  · have hne : ¬ j = i := fun e => hj (by rw [e]; exact hn)
    have e := a4 j (by rw [AHeap.set_f, if_neg hne]; exact hj) hji hjr
    rw [e, AHeap.set_f, if_neg hne]
theorem wrTo_nil {h : AHeap} {id r : Nat} {s : List UInt8} (a : wrAt h id r s) : wrTo h h id r r s [] :=
  ⟨by rw [List.append_nil]; exact a, fun _ => rfl, fun _ h => absurd rfl h, fun _ _ _ _ => rfl⟩
/-- A contract that puts bytes. -/
def wrC (A : Nat → List D → List UInt8 → Prop) (args : List D) (h : AHeap) (K : D → AHeap → Prop) : Prop :=
  ∃ id r s t, A id args t ∧ wrAt h id r s ∧ s.length + t.length ≤ 140737488355328 ∧ ∀ r' h', wrTo h h' id r r' s t → K (.tuple []) h'
theorem wrC_mono {A : Nat → List D → List UInt8 → Prop} (args : List D) (h : AHeap) (K K' : D → AHeap → Prop) (hk : ∀ d h, K d h → K' d h) (c : wrC A args h K) : wrC A args h K' := by
  obtain ⟨id, r, s, t, a, b, c, d⟩ := c
  exact ⟨id, r, s, t, a, b, c, fun r' h' k => hk _ _ (d r' h' k)⟩
theorem wrC_ok {f : FuncId} {A : Nat → List D → List UInt8 → Prop} (hf : ∀ id r s t args h, A id args t → wrAt h id r s → s.length + t.length ≤ 140737488355328 → ACalls Tryd.prog f args h fun o h' => ∃ d, o = .ret d ∧ d = .tuple [] ∧ ∃ r', wrTo h h' id r r' s t)
    (args : List D) (h : AHeap) (K : D → AHeap → Prop) (c : wrC A args h K) : ACalls Tryd.prog f args h fun o h' => ∃ d, o = .ret d ∧ K d h' := by
  obtain ⟨id, r, s, t, a, b, c, d⟩ := c
  exact (hf id r s t args h a b c).mono fun o h' ⟨x, e1, e2, r', e3⟩ => ⟨x, e1, by rw [e2]; exact d r' h' e3⟩
theorem wbytes_c (id r : Nat) (s t : List UInt8) (h : AHeap) (hw : wrAt h id r s) (hb : s.length + t.length ≤ 140737488355328) :
    ACalls Tryd.prog 101 [.ptr id 1 0, .str t] h fun o h' => ∃ d, o = .ret d ∧ d = .tuple [] ∧ ∃ r', wrTo h h' id r r' s t := by
  refine ACalls.run (Tab.zero_ok _) st101n (by simp) fun E => ?_
  obtain ⟨h1, h2⟩ := hw
  by_cases s0n : s = []
  · subst s0n
    simp only [List.length_nil, ownD_zero] at h1
    simp (config := {maxSteps := 1000000}) only [s101n, h1, i_callNe, keptAt, Int.natCast_nonneg, Nat.le_refl, Int.le_refl, List.take_succ_cons, List.take_zero, decide_true, decide_false, Bool.and_false, Bool.false_and, zz, zzN, zzF, fltEv, isArithF, ↓reduceIte, Nat.reduceEqDiff, Nat.reduceBEq, Int.reduceLT, Int.reduceLE, Int.reduceToNat, Int.reduceEq, Int.reduceAdd, Int.reduceSub, Int.reduceMul, Int.reduceNeg, Nat.reduceMul, Nat.reduceSub, Nat.reduceLeDiff, Nat.reduceLT, Int.reduceGT, Int.reduceGE, Int.reduceBEq, Int.reduceBNe, reduceCtorEq, Nat.reduceAdd, Ins.map, Fr.ev, argFr, argE, binEv, intEv, shEv, strEv, unEv, Fr.mark, evRes, tup, lenD, lookupD, loadD, partD, storeD, cellsD, cellOk, setAt, objNe, objSame, eqEv, readEv, lent_bool, lent_int, lent_float, lent_str, lent_agg, lent_tuple, lent_sl, lent_func, lent_iface, lent_nilif, lent_same, buildD, buildRows, rowsOf, elemsOf, normX, unnil, isNil, List.any_cons, List.any_nil, List.map_cons, List.map_nil, Bool.or_false, Bool.false_or, Bool.or_true, Bool.true_or, cond_true, cond_false]
    refine ⟨fun t0 => ⟨r, ?_⟩, by omega, fun t0 i k => ?_⟩
    · subst t0
      refine ⟨⟨by simp [AHeap.set_f, ownD], fun hs => absurd rfl hs⟩, fun _ => rfl, fun _ hs => absurd rfl hs, fun j _ hj _ => by simp [AHeap.set_f, hj]⟩
    · have n : ¬ id = i := fun e => by subst e; rw [h1] at k; cases k
      have hl : t.length ≠ 0 := fun e => t0 (List.length_eq_zero_iff.1 e)
      simp (config := {maxSteps := 1000000}) only [n, h1, i_callNe, keptAt, Int.natCast_nonneg, Nat.le_refl, Int.le_refl, List.take_succ_cons, List.take_zero, decide_true, decide_false, Bool.and_false, Bool.false_and, zz, zzN, zzF, fltEv, isArithF, ↓reduceIte, Nat.reduceEqDiff, Nat.reduceBEq, Int.reduceLT, Int.reduceLE, Int.reduceToNat, Int.reduceEq, Int.reduceAdd, Int.reduceSub, Int.reduceMul, Int.reduceNeg, Nat.reduceMul, Nat.reduceSub, Nat.reduceLeDiff, Nat.reduceLT, Int.reduceGT, Int.reduceGE, Int.reduceBEq, Int.reduceBNe, reduceCtorEq, Nat.reduceAdd, Ins.map, Fr.ev, argFr, argE, binEv, intEv, shEv, strEv, unEv, Fr.mark, evRes, tup, lenD, lookupD, loadD, partD, storeD, cellsD, cellOk, setAt, objNe, objSame, eqEv, readEv, lent_bool, lent_int, lent_float, lent_str, lent_agg, lent_tuple, lent_sl, lent_func, lent_iface, lent_nilif, lent_same, buildD, buildRows, rowsOf, elemsOf, normX, unnil, isNil, List.any_cons, List.any_nil, List.map_cons, List.map_nil, Bool.or_false, Bool.false_or, Bool.or_true, Bool.true_or, cond_true, cond_false]
      refine ⟨i, ⟨?_, ?_⟩, fun hs => absurd rfl hs, fun _ _ => k, fun j hj hji _ => ?_⟩
      · simp [AHeap.set_f, ownD, hl]
      · intro _
        refine ⟨fun e => n e.symm, ?_⟩
        have n' : ¬ i = id := fun e => n e.symm
        simp [AHeap.set_f, n']
      · have : ¬ j = i := fun e => hj (by rw [e]; exact k)
        simp [AHeap.set_f, hji, this]
  · have hl : s.length ≠ 0 := fun e => s0n (List.length_eq_zero_iff.1 e)
    obtain ⟨q, h2⟩ := h2 s0n
    have q' : ¬ id = r := fun e => q e.symm
    rw [ownD_pos hl] at h1
    simp (config := {maxSteps := 1000000}) only [s101n, h1, h2, q, q', i_callNe, keptAt, Int.natCast_nonneg, Nat.le_refl, Int.le_refl, List.take_succ_cons, List.take_zero, decide_true, decide_false, Bool.and_false, Bool.false_and, zz, zzN, zzF, fltEv, isArithF, ↓reduceIte, Nat.reduceEqDiff, Nat.reduceBEq, Int.reduceLT, Int.reduceLE, Int.reduceToNat, Int.reduceEq, Int.reduceAdd, Int.reduceSub, Int.reduceMul, Int.reduceNeg, Nat.reduceMul, Nat.reduceSub, Nat.reduceLeDiff, Nat.reduceLT, Int.reduceGT, Int.reduceGE, Int.reduceBEq, Int.reduceBNe, reduceCtorEq, Nat.reduceAdd, Ins.map, Fr.ev, argFr, argE, binEv, intEv, shEv, strEv, unEv, Fr.mark, evRes, tup, lenD, lookupD, loadD, partD, storeD, cellsD, cellOk, setAt, objNe, objSame, eqEv, readEv, lent_bool, lent_int, lent_float, lent_str, lent_agg, lent_tuple, lent_sl, lent_func, lent_iface, lent_nilif, lent_same, buildD, buildRows, rowsOf, elemsOf, normX, unnil, isNil, List.any_cons, List.any_nil, List.map_cons, List.map_nil, Bool.or_false, Bool.false_or, Bool.or_true, Bool.true_or, cond_true, cond_false]
    refine ⟨by omega, r, ⟨?_, fun _ => ⟨q, ?_⟩⟩, fun _ => rfl, fun hs => absurd hs s0n, fun j hj hji hjr => ?_⟩
    · simp [AHeap.set_f, ownD, hl]; omega
    · simp [AHeap.set_f, q]; omega
    · have := hjr s0n
      simp [AHeap.set_f, hji, this]
def aBytes (id : Nat) (args : List D) (t : List UInt8) : Prop := args = [.ptr id 1 0, .str t]
def c101n := wrC aBytes
theorem c101n_mono : type_of% (@wrC_mono aBytes) := @wrC_mono aBytes
theorem c101n_ok (args : List D) (h : AHeap) (K : D → AHeap → Prop) (c : c101n args h K) : ACalls Tryd.prog 101 args h fun o h' => ∃ d, o = .ret d ∧ K d h' :=
  wrC_ok (fun id r s t args h e a b => by subst e; exact wbytes_c id r s t h a b) args h K c
def tb101n : Tab := tb37n.addW 101 c101n c101n_mono
theorem tb101n_q : tb101n.q = tb37n.q := rfl
theorem tb101n_a : tb101n.a = tb37n.a := rfl
theorem tb101n_c (g : FuncId) (args : List D) (h : AHeap) (K E : D → AHeap → Prop) : tb101n.c g args h K E = if g = 101 then c101n args h K else tb37n.c g args h K E := rfl
theorem tb101n_ok : tb101n.ok Tryd.prog := Tab.addW_ok tb37n_ok c101n_ok
theorem tb101n_e : type_of% (And.intro (And.intro @tb101n_q (And.intro @tb101n_a @tb101n_c)) @tb37n_e) := (And.intro (And.intro @tb101n_q (And.intro @tb101n_a @tb101n_c)) @tb37n_e)

def qNum : List D → Option D
  | [.int .u64 n, .int .i64 m] => if 0 ≤ n ∧ n < 18446744073709551616 then some (.str (leB n.toNat (bN m))) else none
  | _ => none
theorem qNum_ok (args : List D) (d : D) (h : qNum args = some d) : PCall Tryd.prog 102 args d := by
  unfold qNum at h
  split at h
  · split at h
    · rename_i n m c
      cases h
      have := number_c n.toNat m (by omega)
      rwa [Int.toNat_of_nonneg c.1] at this
    · cases h
  · cases h
def tb102n : Tab := tb101n.addQ 102 qNum
theorem tb102n_q (g : FuncId) (args : List D) : tb102n.q g args = if g = 102 then qNum args else tb101n.q g args := rfl
theorem tb102n_a : tb102n.a = tb101n.a := rfl
theorem tb102n_c : tb102n.c = tb101n.c := rfl
theorem tb102n_ok : tb102n.ok Tryd.prog := Tab.addQ_ok tb101n_ok qNum_ok
theorem tb102n_e : type_of% (And.intro (And.intro @tb102n_q (And.intro @tb102n_a @tb102n_c)) @tb101n_e) := (And.intro (And.intro @tb102n_q (And.intro @tb102n_a @tb102n_c)) @tb101n_e)

theorem wnum_c (id r : Nat) (s : List UInt8) (n : Nat) (m : Int) (hn : n < 2 ^ 64) (h : AHeap) (hw : wrAt h id r s) (hb : s.length + (leB n (bN m)).length ≤ 140737488355328) :
    ACalls Tryd.prog 74 [.ptr id 1 0, .int .u64 n, .int .i64 m] h fun o h' => ∃ d, o = .ret d ∧ d = .tuple [] ∧ ∃ r', wrTo h h' id r r' s (leB n (bN m)) := by
  refine ACalls.run tb102n_ok st74n (by simp) fun E => ?_
  have b0 : (0 ≤ (n : Int) ∧ (n : Int) < 18446744073709551616) := by omega
  simp (config := {maxSteps := 1000000}) only [s74n, qNum, b0, Int.toNat_natCast, tb100n_e, tb102n_e, i_callNe, keptAt, Int.natCast_nonneg, Nat.le_refl, Int.le_refl, List.take_succ_cons, List.take_zero, decide_true, decide_false, Bool.and_false, Bool.false_and, zz, zzN, zzF, fltEv, isArithF, ↓reduceIte, Nat.reduceEqDiff, Nat.reduceBEq, Int.reduceLT, Int.reduceLE, Int.reduceToNat, Int.reduceEq, Int.reduceAdd, Int.reduceSub, Int.reduceMul, Int.reduceNeg, Nat.reduceMul, Nat.reduceSub, Nat.reduceLeDiff, Nat.reduceLT, Int.reduceGT, Int.reduceGE, Int.reduceBEq, Int.reduceBNe, reduceCtorEq, Nat.reduceAdd, Ins.map, Fr.ev, argFr, argE, binEv, intEv, shEv, strEv, unEv, Fr.mark, evRes, tup, lenD, lookupD, loadD, partD, storeD, cellsD, cellOk, setAt, objNe, objSame, eqEv, readEv, lent_bool, lent_int, lent_float, lent_str, lent_agg, lent_tuple, lent_sl, lent_func, lent_iface, lent_nilif, lent_same, buildD, buildRows, rowsOf, elemsOf, normX, unnil, isNil, List.any_cons, List.any_nil, List.map_cons, List.map_nil, Bool.or_false, Bool.false_or, Bool.or_true, Bool.true_or, cond_true, cond_false]
  refine ⟨id, r, s, _, rfl, hw, hb, fun r' h' k => ?_⟩
  simp (config := {maxSteps := 1000000}) only [tb100n_e, tb102n_e, i_callNe, keptAt, Int.natCast_nonneg, Nat.le_refl, Int.le_refl, List.take_succ_cons, List.take_zero, decide_true, decide_false, Bool.and_false, Bool.false_and, zz, zzN, zzF, fltEv, isArithF, ↓reduceIte, Nat.reduceEqDiff, Nat.reduceBEq, Int.reduceLT, Int.reduceLE, Int.reduceToNat, Int.reduceEq, Int.reduceAdd, Int.reduceSub, Int.reduceMul, Int.reduceNeg, Nat.reduceMul, Nat.reduceSub, Nat.reduceLeDiff, Nat.reduceLT, Int.reduceGT, Int.reduceGE, Int.reduceBEq, Int.reduceBNe, reduceCtorEq, Nat.reduceAdd, Ins.map, Fr.ev, argFr, argE, binEv, intEv, shEv, strEv, unEv, Fr.mark, evRes, tup, lenD, lookupD, loadD, partD, storeD, cellsD, cellOk, setAt, objNe, objSame, eqEv, readEv, lent_bool, lent_int, lent_float, lent_str, lent_agg, lent_tuple, lent_sl, lent_func, lent_iface, lent_nilif, lent_same, buildD, buildRows, rowsOf, elemsOf, normX, unnil, isNil, List.any_cons, List.any_nil, List.map_cons, List.map_nil, Bool.or_false, Bool.false_or, Bool.or_true, Bool.true_or, cond_true, cond_false]
  exact ⟨r', k⟩
def aNum (id : Nat) (args : List D) (t : List UInt8) : Prop := ∃ (n : Nat) (m : Int), n < 2 ^ 64 ∧ args = [.ptr id 1 0, .int .u64 n, .int .i64 m] ∧ t = leB n (bN m)
def c74n := wrC aNum
theorem c74n_mono : type_of% (@wrC_mono aNum) := @wrC_mono aNum
theorem c74n_ok (args : List D) (h : AHeap) (K : D → AHeap → Prop) (c : c74n args h K) : ACalls Tryd.prog 74 args h fun o h' => ∃ d, o = .ret d ∧ K d h' :=
  wrC_ok (fun id r s t args h e a b => by obtain ⟨n, m, hn, rfl, rfl⟩ := e; exact wnum_c id r s n m hn h a b) args h K c
def tb74n : Tab := tb102n.addW 74 c74n c74n_mono
theorem tb74n_q : tb74n.q = tb102n.q := rfl
theorem tb74n_a : tb74n.a = tb102n.a := rfl
theorem tb74n_c (g : FuncId) (args : List D) (h : AHeap) (K E : D → AHeap → Prop) : tb74n.c g args h K E = if g = 74 then c74n args h K else tb102n.c g args h K E := rfl
theorem tb74n_ok : tb74n.ok Tryd.prog := Tab.addW_ok tb102n_ok c74n_ok
theorem tb74n_e : type_of% (And.intro (And.intro @tb74n_q (And.intro @tb74n_a @tb74n_c)) @tb102n_e) := (And.intro (And.intro @tb74n_q (And.intro @tb74n_a @tb74n_c)) @tb102n_e)

theorem wcount_c (id r : Nat) (s : List UInt8) (n : Nat) (hn : n < 2 ^ 63) (h : AHeap) (hw : wrAt h id r s) (hb : s.length + (leB n 4).length ≤ 140737488355328) :
    ACalls Tryd.prog 103 [.ptr id 1 0, .int .i64 n] h fun o h' => ∃ d, o = .ret d ∧ d = .tuple [] ∧ ∃ r', wrTo h h' id r r' s (leB n 4) := by
  refine ACalls.run tb74n_ok st103n (by simp) fun E => ?_
  simp (config := {maxSteps := 1000000}) only [s103n, Int.toNat_natCast, tb100n_e, tb74n_e, i_callNe, keptAt, Int.natCast_nonneg, Nat.le_refl, Int.le_refl, List.take_succ_cons, List.take_zero, decide_true, decide_false, Bool.and_false, Bool.false_and, zz, zzN, zzF, fltEv, isArithF, ↓reduceIte, Nat.reduceEqDiff, Nat.reduceBEq, Int.reduceLT, Int.reduceLE, Int.reduceToNat, Int.reduceEq, Int.reduceAdd, Int.reduceSub, Int.reduceMul, Int.reduceNeg, Nat.reduceMul, Nat.reduceSub, Nat.reduceLeDiff, Nat.reduceLT, Int.reduceGT, Int.reduceGE, Int.reduceBEq, Int.reduceBNe, reduceCtorEq, Nat.reduceAdd, Ins.map, Fr.ev, argFr, argE, binEv, intEv, shEv, strEv, unEv, Fr.mark, evRes, tup, lenD, lookupD, loadD, partD, storeD, cellsD, cellOk, setAt, objNe, objSame, eqEv, readEv, lent_bool, lent_int, lent_float, lent_str, lent_agg, lent_tuple, lent_sl, lent_func, lent_iface, lent_nilif, lent_same, buildD, buildRows, rowsOf, elemsOf, normX, unnil, isNil, List.any_cons, List.any_nil, List.map_cons, List.map_nil, Bool.or_false, Bool.false_or, Bool.or_true, Bool.true_or, cond_true, cond_false]
  refine ⟨id, r, s, _, ⟨n, 4, by omega, ?_, rfl⟩, hw, hb, fun r' h' k => ?_⟩
  · rw [if_neg (by omega), wrap_u64 (by omega) (by omega)]
  simp (config := {maxSteps := 1000000}) only [tb100n_e, tb74n_e, i_callNe, keptAt, Int.natCast_nonneg, Nat.le_refl, Int.le_refl, List.take_succ_cons, List.take_zero, decide_true, decide_false, Bool.and_false, Bool.false_and, zz, zzN, zzF, fltEv, isArithF, ↓reduceIte, Nat.reduceEqDiff, Nat.reduceBEq, Int.reduceLT, Int.reduceLE, Int.reduceToNat, Int.reduceEq, Int.reduceAdd, Int.reduceSub, Int.reduceMul, Int.reduceNeg, Nat.reduceMul, Nat.reduceSub, Nat.reduceLeDiff, Nat.reduceLT, Int.reduceGT, Int.reduceGE, Int.reduceBEq, Int.reduceBNe, reduceCtorEq, Nat.reduceAdd, Ins.map, Fr.ev, argFr, argE, binEv, intEv, shEv, strEv, unEv, Fr.mark, evRes, tup, lenD, lookupD, loadD, partD, storeD, cellsD, cellOk, setAt, objNe, objSame, eqEv, readEv, lent_bool, lent_int, lent_float, lent_str, lent_agg, lent_tuple, lent_sl, lent_func, lent_iface, lent_nilif, lent_same, buildD, buildRows, rowsOf, elemsOf, normX, unnil, isNil, List.any_cons, List.any_nil, List.map_cons, List.map_nil, Bool.or_false, Bool.false_or, Bool.or_true, Bool.true_or, cond_true, cond_false]
  exact ⟨r', k⟩
def aCount (id : Nat) (args : List D) (t : List UInt8) : Prop := ∃ (n : Nat), n < 2 ^ 63 ∧ args = [.ptr id 1 0, .int .i64 n] ∧ t = leB n 4
def c103n := wrC aCount
theorem c103n_mono : type_of% (@wrC_mono aCount) := @wrC_mono aCount
theorem c103n_ok (args : List D) (h : AHeap) (K : D → AHeap → Prop) (c : c103n args h K) : ACalls Tryd.prog 103 args h fun o h' => ∃ d, o = .ret d ∧ K d h' :=
  wrC_ok (fun id r s t args h e a b => by obtain ⟨n, hn, rfl, rfl⟩ := e; exact wcount_c id r s n hn h a b) args h K c
def tb103n : Tab := tb74n.addW 103 c103n c103n_mono
theorem tb103n_q : tb103n.q = tb74n.q := rfl
theorem tb103n_a : tb103n.a = tb74n.a := rfl
theorem tb103n_c (g : FuncId) (args : List D) (h : AHeap) (K E : D → AHeap → Prop) : tb103n.c g args h K E = if g = 103 then c103n args h K else tb74n.c g args h K E := rfl
theorem tb103n_ok : tb103n.ok Tryd.prog := Tab.addW_ok tb74n_ok c103n_ok
theorem tb103n_e : type_of% (And.intro (And.intro @tb103n_q (And.intro @tb103n_a @tb103n_c)) @tb74n_e) := (And.intro (And.intro @tb103n_q (And.intro @tb103n_a @tb103n_c)) @tb74n_e)

theorem wtext_c (id r : Nat) (s t : List UInt8) (h : AHeap) (hw : wrAt h id r s) (hb : s.length + (leB t.length 4 ++ t).length ≤ 140737488355328) :
    ACalls Tryd.prog 75 [.ptr id 1 0, .str t] h fun o h' => ∃ d, o = .ret d ∧ d = .tuple [] ∧ ∃ r', wrTo h h' id r r' s (leB t.length 4 ++ t) := by
  refine ACalls.run tb103n_ok st75n (by simp) fun E => ?_
  have hb' : (leB t.length 4).length = 4 := len_leB _ _
  rw [List.length_append] at hb
  simp (config := {maxSteps := 1000000}) only [s75n, tb100n_e, tb103n_e, i_callNe, keptAt, Int.natCast_nonneg, Nat.le_refl, Int.le_refl, List.take_succ_cons, List.take_zero, decide_true, decide_false, Bool.and_false, Bool.false_and, zz, zzN, zzF, fltEv, isArithF, ↓reduceIte, Nat.reduceEqDiff, Nat.reduceBEq, Int.reduceLT, Int.reduceLE, Int.reduceToNat, Int.reduceEq, Int.reduceAdd, Int.reduceSub, Int.reduceMul, Int.reduceNeg, Nat.reduceMul, Nat.reduceSub, Nat.reduceLeDiff, Nat.reduceLT, Int.reduceGT, Int.reduceGE, Int.reduceBEq, Int.reduceBNe, reduceCtorEq, Nat.reduceAdd, Ins.map, Fr.ev, argFr, argE, binEv, intEv, shEv, strEv, unEv, Fr.mark, evRes, tup, lenD, lookupD, loadD, partD, storeD, cellsD, cellOk, setAt, objNe, objSame, eqEv, readEv, lent_bool, lent_int, lent_float, lent_str, lent_agg, lent_tuple, lent_sl, lent_func, lent_iface, lent_nilif, lent_same, buildD, buildRows, rowsOf, elemsOf, normX, unnil, isNil, List.any_cons, List.any_nil, List.map_cons, List.map_nil, Bool.or_false, Bool.false_or, Bool.or_true, Bool.true_or, cond_true, cond_false]
  intro hl
  refine ⟨id, r, s, _, ⟨t.length, by omega, rfl, rfl⟩, hw, by omega, fun r1 h1 k1 => ?_⟩
  simp (config := {maxSteps := 1000000}) only [tb100n_e, tb103n_e, i_callNe, keptAt, Int.natCast_nonneg, Nat.le_refl, Int.le_refl, List.take_succ_cons, List.take_zero, decide_true, decide_false, Bool.and_false, Bool.false_and, zz, zzN, zzF, fltEv, isArithF, ↓reduceIte, Nat.reduceEqDiff, Nat.reduceBEq, Int.reduceLT, Int.reduceLE, Int.reduceToNat, Int.reduceEq, Int.reduceAdd, Int.reduceSub, Int.reduceMul, Int.reduceNeg, Nat.reduceMul, Nat.reduceSub, Nat.reduceLeDiff, Nat.reduceLT, Int.reduceGT, Int.reduceGE, Int.reduceBEq, Int.reduceBNe, reduceCtorEq, Nat.reduceAdd, Ins.map, Fr.ev, argFr, argE, binEv, intEv, shEv, strEv, unEv, Fr.mark, evRes, tup, lenD, lookupD, loadD, partD, storeD, cellsD, cellOk, setAt, objNe, objSame, eqEv, readEv, lent_bool, lent_int, lent_float, lent_str, lent_agg, lent_tuple, lent_sl, lent_func, lent_iface, lent_nilif, lent_same, buildD, buildRows, rowsOf, elemsOf, normX, unnil, isNil, List.any_cons, List.any_nil, List.map_cons, List.map_nil, Bool.or_false, Bool.false_or, Bool.or_true, Bool.true_or, cond_true, cond_false]
  refine ⟨id, r1, s ++ leB t.length 4, t, rfl, k1.1, by rw [List.length_append]; omega, fun r2 h2 k2 => ?_⟩
  simp (config := {maxSteps := 1000000}) only [tb100n_e, tb103n_e, i_callNe, keptAt, Int.natCast_nonneg, Nat.le_refl, Int.le_refl, List.take_succ_cons, List.take_zero, decide_true, decide_false, Bool.and_false, Bool.false_and, zz, zzN, zzF, fltEv, isArithF, ↓reduceIte, Nat.reduceEqDiff, Nat.reduceBEq, Int.reduceLT, Int.reduceLE, Int.reduceToNat, Int.reduceEq, Int.reduceAdd, Int.reduceSub, Int.reduceMul, Int.reduceNeg, Nat.reduceMul, Nat.reduceSub, Nat.reduceLeDiff, Nat.reduceLT, Int.reduceGT, Int.reduceGE, Int.reduceBEq, Int.reduceBNe, reduceCtorEq, Nat.reduceAdd, Ins.map, Fr.ev, argFr, argE, binEv, intEv, shEv, strEv, unEv, Fr.mark, evRes, tup, lenD, lookupD, loadD, partD, storeD, cellsD, cellOk, setAt, objNe, objSame, eqEv, readEv, lent_bool, lent_int, lent_float, lent_str, lent_agg, lent_tuple, lent_sl, lent_func, lent_iface, lent_nilif, lent_same, buildD, buildRows, rowsOf, elemsOf, normX, unnil, isNil, List.any_cons, List.any_nil, List.map_cons, List.map_nil, Bool.or_false, Bool.false_or, Bool.or_true, Bool.true_or, cond_true, cond_false]
  exact ⟨r2, wrTo_trans (by rw [hw.1]; simp) k1 k2⟩
def aText (id : Nat) (args : List D) (t : List UInt8) : Prop := ∃ x, args = [.ptr id 1 0, .str x] ∧ t = leB x.length 4 ++ x
def c75n := wrC aText
theorem c75n_mono : type_of% (@wrC_mono aText) := @wrC_mono aText
theorem c75n_ok (args : List D) (h : AHeap) (K : D → AHeap → Prop) (c : c75n args h K) : ACalls Tryd.prog 75 args h fun o h' => ∃ d, o = .ret d ∧ K d h' :=
  wrC_ok (fun id r s t args h e a b => by obtain ⟨x, rfl, rfl⟩ := e; exact wtext_c id r s x h a b) args h K c
def tb75n : Tab := tb103n.addW 75 c75n c75n_mono
theorem tb75n_q : tb75n.q = tb103n.q := rfl
theorem tb75n_a : tb75n.a = tb103n.a := rfl
theorem tb75n_c (g : FuncId) (args : List D) (h : AHeap) (K E : D → AHeap → Prop) : tb75n.c g args h K E = if g = 75 then c75n args h K else tb103n.c g args h K E := rfl
theorem tb75n_ok : tb75n.ok Tryd.prog := Tab.addW_ok tb103n_ok c75n_ok
theorem tb75n_e : type_of% (And.intro (And.intro @tb75n_q (And.intro @tb75n_a @tb75n_c)) @tb103n_e) := (And.intro (And.intro @tb75n_q (And.intro @tb75n_a @tb75n_c)) @tb103n_e)

theorem wall_c (id r : Nat) (s : List UInt8) (h : AHeap) (hw : wrAt h id r s) : ACalls Tryd.prog 42 [.ptr id 1 0] h fun o h' => ∃ d, o = .ret d ∧ d = .str s := by
  refine ACalls.run (Tab.zero_ok _) st42n (by simp) fun E => ?_
  obtain ⟨h1, h2⟩ := hw
  by_cases s0n : s = []
  · subst s0n
    simp only [List.length_nil, ownD_zero] at h1
    simp (config := {maxSteps := 1000000}) only [s42n, h1, i_callNe, keptAt, Int.natCast_nonneg, Nat.le_refl, Int.le_refl, List.take_succ_cons, List.take_zero, decide_true, decide_false, Bool.and_false, Bool.false_and, zz, zzN, zzF, fltEv, isArithF, ↓reduceIte, Nat.reduceEqDiff, Nat.reduceBEq, Int.reduceLT, Int.reduceLE, Int.reduceToNat, Int.reduceEq, Int.reduceAdd, Int.reduceSub, Int.reduceMul, Int.reduceNeg, Nat.reduceMul, Nat.reduceSub, Nat.reduceLeDiff, Nat.reduceLT, Int.reduceGT, Int.reduceGE, Int.reduceBEq, Int.reduceBNe, reduceCtorEq, Nat.reduceAdd, Ins.map, Fr.ev, argFr, argE, binEv, intEv, shEv, strEv, unEv, Fr.mark, evRes, tup, lenD, lookupD, loadD, partD, storeD, cellsD, cellOk, setAt, objNe, objSame, eqEv, readEv, lent_bool, lent_int, lent_float, lent_str, lent_agg, lent_tuple, lent_sl, lent_func, lent_iface, lent_nilif, lent_same, buildD, buildRows, rowsOf, elemsOf, normX, unnil, isNil, List.any_cons, List.any_nil, List.map_cons, List.map_nil, Bool.or_false, Bool.false_or, Bool.or_true, Bool.true_or, cond_true, cond_false]
  · have hl : s.length ≠ 0 := fun e => s0n (List.length_eq_zero_iff.1 e)
    obtain ⟨q, h2⟩ := h2 s0n
    have q' : ¬ id = r := fun e => q e.symm
    rw [ownD_pos hl] at h1
    simp (config := {maxSteps := 1000000}) only [s42n, h1, h2, q, q', i_callNe, keptAt, Int.natCast_nonneg, Nat.le_refl, Int.le_refl, List.take_succ_cons, List.take_zero, decide_true, decide_false, Bool.and_false, Bool.false_and, zz, zzN, zzF, fltEv, isArithF, ↓reduceIte, Nat.reduceEqDiff, Nat.reduceBEq, Int.reduceLT, Int.reduceLE, Int.reduceToNat, Int.reduceEq, Int.reduceAdd, Int.reduceSub, Int.reduceMul, Int.reduceNeg, Nat.reduceMul, Nat.reduceSub, Nat.reduceLeDiff, Nat.reduceLT, Int.reduceGT, Int.reduceGE, Int.reduceBEq, Int.reduceBNe, reduceCtorEq, Nat.reduceAdd, Ins.map, Fr.ev, argFr, argE, binEv, intEv, shEv, strEv, unEv, Fr.mark, evRes, tup, lenD, lookupD, loadD, partD, storeD, cellsD, cellOk, setAt, objNe, objSame, eqEv, readEv, lent_bool, lent_int, lent_float, lent_str, lent_agg, lent_tuple, lent_sl, lent_func, lent_iface, lent_nilif, lent_same, buildD, buildRows, rowsOf, elemsOf, normX, unnil, isNil, List.any_cons, List.any_nil, List.map_cons, List.map_nil, Bool.or_false, Bool.false_or, Bool.or_true, Bool.true_or, cond_true, cond_false]
    exact List.take_length
def c42n (args : List D) (h : AHeap) (K : D → AHeap → Prop) : Prop := ∃ id r s, args = [.ptr id 1 0] ∧ wrAt h id r s ∧ ∀ h', K (.str s) h'
theorem c42n_mono (args : List D) (h : AHeap) (K K' : D → AHeap → Prop) (hk : ∀ d h, K d h → K' d h) (c : c42n args h K) : c42n args h K' := by
  obtain ⟨id, r, s, e, a, k⟩ := c
  exact ⟨id, r, s, e, a, fun h' => hk _ _ (k h')⟩
theorem c42n_ok (args : List D) (h : AHeap) (K : D → AHeap → Prop) (c : c42n args h K) : ACalls Tryd.prog 42 args h fun o h' => ∃ d, o = .ret d ∧ K d h' := by
  obtain ⟨id, r, s, rfl, a, k⟩ := c
  exact (wall_c id r s h a).mono fun o h' ⟨d, e1, e2⟩ => ⟨d, e1, by rw [e2]; exact k h'⟩
def tb42n : Tab := tb75n.addW 42 c42n c42n_mono
theorem tb42n_q : tb42n.q = tb75n.q := rfl
theorem tb42n_a : tb42n.a = tb75n.a := rfl
theorem tb42n_c (g : FuncId) (args : List D) (h : AHeap) (K E : D → AHeap → Prop) : tb42n.c g args h K E = if g = 42 then c42n args h K else tb75n.c g args h K E := rfl
theorem tb42n_ok : tb42n.ok Tryd.prog := Tab.addW_ok tb75n_ok c42n_ok
theorem tb42n_e : type_of% (And.intro (And.intro @tb42n_q (And.intro @tb42n_a @tb42n_c)) @tb75n_e) := (And.intro (And.intro @tb42n_q (And.intro @tb42n_a @tb42n_c)) @tb75n_e)

theorem newWriter_c (h : AHeap) : ACalls Tryd.prog 40 [] h fun o h' => ∃ id, h.f id = none ∧ o = .ret (.ptr id 1 0) ∧ h' = h.set id (.cells [.nilsl]) := by
  refine (ACalls.run (K := fun d h' => ∃ id, h.f id = none ∧ d = .ptr id 1 0 ∧ h' = h.set id (.cells [.nilsl])) (Tab.zero_ok _) st40n (by simp) fun E => ?_).mono fun o h' ⟨d, e, id, a, b, c⟩ => ⟨id, a, by rw [e, b], c⟩
  simp only [s40n, i_callNe, keptAt, Int.natCast_nonneg, Nat.le_refl, Int.le_refl, List.take_succ_cons, List.take_zero, decide_true, decide_false, Bool.and_false, Bool.false_and, zz, zzN, zzF, fltEv, isArithF, ↓reduceIte, Nat.reduceEqDiff, Nat.reduceBEq, Int.reduceLT, Int.reduceLE, Int.reduceToNat, Int.reduceEq, Int.reduceAdd, Int.reduceSub, Int.reduceMul, Int.reduceNeg, Nat.reduceMul, Nat.reduceSub, Nat.reduceLeDiff, Nat.reduceLT, Int.reduceGT, Int.reduceGE, Int.reduceBEq, Int.reduceBNe, reduceCtorEq, Nat.reduceAdd, Ins.map, Fr.ev, argFr, argE, binEv, intEv, shEv, strEv, unEv, Fr.mark, evRes, tup, lenD, lookupD, loadD, partD, storeD, cellsD, cellOk, setAt, objNe, objSame, eqEv, readEv, lent_bool, lent_int, lent_float, lent_str, lent_agg, lent_tuple, lent_sl, lent_func, lent_iface, lent_nilif, lent_same, buildD, buildRows, rowsOf, elemsOf, normX, unnil, isNil, List.any_cons, List.any_nil, List.map_cons, List.map_nil, Bool.or_false, Bool.false_or, Bool.or_true, Bool.true_or, cond_true, cond_false]
  intro id hid
  exact ⟨id, hid, rfl, rfl⟩
def tb40n : Tab := tb42n.addA 40 [.nilsl]
theorem tb40n_q : tb40n.q = tb42n.q := rfl
theorem tb40n_a (g : FuncId) : tb40n.a g = if g = 40 then some [.nilsl] else tb42n.a g := rfl
theorem tb40n_c : tb40n.c = tb42n.c := rfl
theorem tb40n_ok : tb40n.ok Tryd.prog := Tab.addA_ok tb42n_ok newWriter_c
theorem tb40n_e : type_of% (And.intro (And.intro @tb40n_q (And.intro @tb40n_a @tb40n_c)) @tb42n_e) := (And.intro (And.intro @tb40n_q (And.intro @tb40n_a @tb40n_c)) @tb42n_e)

end Go.Proofs.YthpgepillaeldaaDoor.Zz
