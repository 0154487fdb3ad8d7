/- The law of orders. -/
import Derived.Test.YtaimobfakcompaaZV2
namespace Go.Proofs.Ytaimobfakcompaa.Zz
set_option linter.unusedVariables false
set_option linter.unusedSimpArgs false
set_option maxRecDepth 20000
def p10 : Plan := ⟨⟨[], [], [(8, 2)], [], [], []⟩, [(8, [0, 1, 2, 3, 4, 5, 6, 7, 8, 9, 10, 11, 12]), (11, [0, 2, 1, 3, 4, 5]), (17, [0, 1, 2, 3, 4, 5, 6, 7, 8, 9, 10, 11, 12, 14, 13, 15, 16, 17, 18, 19, 21, 20, 22, 23, 24, 25])]⟩
/-- cupel/cupellaw13.ValOrders (2 parameters, 0 captured) -/
def s10 : Stm :=
  .seq (.ops [⟨.box (.t 0), (some 2), none, false⟩,
     ⟨.box (.t 1), (some 3), none, false⟩,
     ⟨.mov (.c (.bool false)), (some 4), none, true⟩])
  (.seq (.seq (.ops [⟨.fieldAddr 0 (.t 2), (some 21), none, true⟩,
      ⟨.load none (.t 21), (some 22), none, false⟩,
      ⟨.fieldAddr 0 (.t 3), (some 23), none, true⟩,
      ⟨.load none (.t 23), (some 24), none, false⟩,
      ⟨.bin .neq (.t 22) (.t 24), (some 25), none, true⟩,
      ⟨.mov (.t 25), (some 26), none, true⟩,
      ⟨.fieldAddr 0 (.t 2), (some 27), (some (26, false)), true⟩,
      ⟨.load none (.t 27), (some 28), (some (26, false)), false⟩,
      ⟨.bin .neq (.t 28) (.c (.int .i64 1)), (some 29), (some (26, false)), true⟩,
      ⟨.mov (.t 29), (some 30), (some (26, false)), true⟩,
      ⟨.fieldAddr 0 (.t 2), (some 31), (some (30, true)), true⟩,
      ⟨.load none (.t 31), (some 32), (some (30, true)), false⟩,
      ⟨.bin .neq (.t 32) (.c (.int .i64 2)), (some 33), (some (30, true)), true⟩,
      ⟨.pick (.t 30) (.t 33) (.c (.bool false)), (some 34), (some (26, false)), true⟩,
      ⟨.pick (.t 26) (.c (.bool true)) (.t 34), (some 35), none, true⟩])
   (.cond (.t 35)
    (.seq (.ops [⟨.qcall (.f 28) [], (some 36), none, false⟩,
        ⟨.mov (.t 36), (some 4), none, true⟩])
     (.ret))
    (.skip)))
  (.seq (.ops [⟨.buildSlice 1 [(.str [])] 3 [(0, (.c (.str [60]))), (1, (.c (.str [61, 61]))), (2, (.c (.str [62])))] false, (some 37), none, true⟩,
     ⟨.mov (.t 37), (some 5), none, true⟩])
  (.seq (.ops [⟨.mov (.c (.int .i64 0)), (some 6), none, true⟩])
  (.seq (.seq (.ops [⟨.mov (.c (.int .i64 0)), (some 7), none, true⟩])
   (.block 0 (.loop (.seq (.seq (.ops [⟨.mov (.t 7), (some 38), none, true⟩,
         ⟨.bin .lss (.t 38) (.c (.int .i64 3)), (some 39), none, true⟩])
      (.cond (.t 39)
       (.skip)
       (.exit 0)))
     (.seq (.block 1 (.seq (.ops [⟨.mov (.t 5), (some 43), none, true⟩,
          ⟨.mov (.t 7), (some 44), none, true⟩,
          ⟨.indexAddrS 1 (.t 43) (.t 44), (some 45), none, false⟩,
          ⟨.load none (.t 45), (some 46), none, false⟩,
          ⟨.load (some 2) (.t 2), (some 47), none, false⟩,
          ⟨.load (some 2) (.t 3), (some 48), none, false⟩,
          ⟨.qcall (.f 26) [(.t 46), (.t 47), (.t 48)], (some 49), none, false⟩,
          ⟨.mov (.t 49), (some 42), none, true⟩,
          ⟨.extract (.t 42) 0, (some 50), none, true⟩,
          ⟨.extract (.t 42) 1, (some 51), none, true⟩,
          ⟨.alloc [(.int .i64 0), (.int .i64 0)], (some 8), none, false⟩,
          ⟨.store 2 (.t 8) (.t 50), none, none, false⟩,
          ⟨.mov (.t 51), (some 9), none, true⟩])
       (.seq (.ops [⟨.load (some 2) (.t 8), (some 52), none, false⟩,
          ⟨.qcall (.f 29) [(.t 52)], (some 53), none, false⟩])
       (.cond (.t 53)
        (.ops [⟨.mov (.t 6), (some 54), none, true⟩,
           ⟨.bin .add (.t 54) (.c (.int .i64 1)), (some 55), none, true⟩,
           ⟨.mov (.t 55), (some 6), none, true⟩])
        (.skip)))))
     (.ops [⟨.mov (.t 7), (some 40), none, true⟩,
       ⟨.bin .add (.t 40) (.c (.int .i64 1)), (some 41), none, true⟩,
       ⟨.mov (.t 41), (some 7), none, true⟩]))))))
  (.seq (.ops [⟨.load (some 2) (.t 2), (some 56), none, false⟩,
     ⟨.load (some 2) (.t 3), (some 58), none, false⟩,
     ⟨.qcall (.f 30) [(.t 56)], (some 57), none, false⟩,
     ⟨.qcall (.f 30) [(.t 58)], (some 59), none, false⟩,
     ⟨.mov (.t 57), (some 10), none, true⟩,
     ⟨.mov (.t 59), (some 11), none, true⟩])
  (.seq (.ops [⟨.fieldAddr 0 (.t 2), (some 60), none, true⟩,
     ⟨.load none (.t 60), (some 61), none, false⟩,
     ⟨.bin .eql (.t 61) (.c (.int .i64 2)), (some 62), none, true⟩,
     ⟨.mov (.t 62), (some 63), none, true⟩,
     ⟨.mov (.t 10), (some 64), (some (63, true)), true⟩,
     ⟨.mov (.t 10), (some 65), (some (63, true)), true⟩,
     ⟨.bin .neq (.t 64) (.t 65), (some 66), (some (63, true)), true⟩,
     ⟨.mov (.t 66), (some 67), (some (63, true)), true⟩,
     ⟨.mov (.t 11), (some 68), (some (67, false)), true⟩,
     ⟨.mov (.t 11), (some 69), (some (67, false)), true⟩,
     ⟨.bin .neq (.t 68) (.t 69), (some 70), (some (67, false)), true⟩,
     ⟨.pick (.t 67) (.c (.bool true)) (.t 70), (some 71), (some (63, true)), true⟩,
     ⟨.pick (.t 63) (.t 71) (.c (.bool false)), (some 72), none, true⟩,
     ⟨.mov (.t 72), (some 12), none, true⟩])
  (.seq (.ops [⟨.load (some 2) (.t 2), (some 74), none, false⟩,
     ⟨.load (some 2) (.t 3), (some 75), none, false⟩,
     ⟨.qcall (.f 26) [(.c (.str [60, 61])), (.t 74), (.t 75)], (some 76), none, false⟩,
     ⟨.mov (.t 76), (some 73), none, true⟩,
     ⟨.extract (.t 73) 0, (some 77), none, true⟩,
     ⟨.extract (.t 73) 1, (some 78), none, true⟩,
     ⟨.alloc [(.int .i64 0), (.int .i64 0)], (some 13), none, false⟩,
     ⟨.store 2 (.t 13) (.t 77), none, none, false⟩,
     ⟨.mov (.t 78), (some 14), none, true⟩])
  (.seq (.ops [⟨.load (some 2) (.t 3), (some 80), none, false⟩,
     ⟨.load (some 2) (.t 2), (some 81), none, false⟩,
     ⟨.qcall (.f 26) [(.c (.str [62, 61])), (.t 80), (.t 81)], (some 82), none, false⟩,
     ⟨.mov (.t 82), (some 79), none, true⟩,
     ⟨.extract (.t 79) 0, (some 83), none, true⟩,
     ⟨.extract (.t 79) 1, (some 84), none, true⟩,
     ⟨.alloc [(.int .i64 0), (.int .i64 0)], (some 15), none, false⟩,
     ⟨.store 2 (.t 15) (.t 83), none, none, false⟩,
     ⟨.mov (.t 84), (some 16), none, true⟩])
  (.seq (.ops [⟨.load (some 2) (.t 2), (some 86), none, false⟩,
     ⟨.load (some 2) (.t 3), (some 87), none, false⟩,
     ⟨.qcall (.f 26) [(.c (.str [33, 61])), (.t 86), (.t 87)], (some 88), none, false⟩,
     ⟨.mov (.t 88), (some 85), none, true⟩,
     ⟨.extract (.t 85) 0, (some 89), none, true⟩,
     ⟨.extract (.t 85) 1, (some 90), none, true⟩,
     ⟨.alloc [(.int .i64 0), (.int .i64 0)], (some 17), none, false⟩,
     ⟨.store 2 (.t 17) (.t 89), none, none, false⟩,
     ⟨.mov (.t 90), (some 18), none, true⟩])
  (.seq (.ops [⟨.load (some 2) (.t 2), (some 92), none, false⟩,
     ⟨.load (some 2) (.t 3), (some 93), none, false⟩,
     ⟨.qcall (.f 26) [(.c (.str [61, 61])), (.t 92), (.t 93)], (some 94), none, false⟩,
     ⟨.mov (.t 94), (some 91), none, true⟩,
     ⟨.extract (.t 91) 0, (some 95), none, true⟩,
     ⟨.extract (.t 91) 1, (some 96), none, true⟩,
     ⟨.alloc [(.int .i64 0), (.int .i64 0)], (some 19), none, false⟩,
     ⟨.store 2 (.t 19) (.t 95), none, none, false⟩,
     ⟨.mov (.t 96), (some 20), none, true⟩])
  (.seq (.ops [⟨.qcall (.f 28) [], (some 97), none, false⟩,
     ⟨.mov (.t 97), (some 98), none, true⟩,
     ⟨.mov (.t 6), (some 99), (some (98, true)), true⟩,
     ⟨.bin .eql (.t 99) (.c (.int .i64 1)), (some 100), (some (98, true)), true⟩,
     ⟨.mov (.t 12), (some 101), (some (98, true)), true⟩,
     ⟨.eql .bool true (.t 100) (.t 101), (some 102), (some (98, true)), true⟩,
     ⟨.pick (.t 98) (.t 102) (.c (.bool false)), (some 103), none, true⟩,
     ⟨.mov (.t 103), (some 104), none, true⟩,
     ⟨.mov (.t 6), (some 105), (some (104, true)), true⟩,
     ⟨.bin .leq (.t 105) (.c (.int .i64 1)), (some 106), (some (104, true)), true⟩,
     ⟨.pick (.t 104) (.t 106) (.c (.bool false)), (some 107), none, true⟩,
     ⟨.mov (.t 107), (some 108), none, true⟩,
     ⟨.load (some 2) (.t 13), (some 109), (some (108, true)), false⟩,
     ⟨.load (some 2) (.t 15), (some 111), (some (108, true)), false⟩,
     ⟨.qcall (.f 29) [(.t 109)], (some 110), (some (108, true)), false⟩,
     ⟨.qcall (.f 29) [(.t 111)], (some 112), (some (108, true)), false⟩,
     ⟨.eql .bool false (.t 110) (.t 112), (some 113), (some (108, true)), true⟩,
     ⟨.pick (.t 108) (.t 113) (.c (.bool false)), (some 114), none, true⟩,
     ⟨.mov (.t 114), (some 115), none, true⟩,
     ⟨.load (some 2) (.t 17), (some 116), (some (115, true)), false⟩,
     ⟨.load (some 2) (.t 19), (some 118), (some (115, true)), false⟩,
     ⟨.qcall (.f 29) [(.t 116)], (some 117), (some (115, true)), false⟩,
     ⟨.qcall (.f 29) [(.t 118)], (some 119), (some (115, true)), false⟩,
     ⟨.eql .bool true (.t 117) (.t 119), (some 120), (some (115, true)), true⟩,
     ⟨.pick (.t 115) (.t 120) (.c (.bool false)), (some 121), none, true⟩,
     ⟨.mov (.t 121), (some 4), none, true⟩])
  (.ret))))))))))))
theorem st10 : stmOf Try.prog 10 p10 = some (s10, [.tmp 4], 122) := by kernel_rfl

def cmpI (a b : Int) : Ordering := if a < b then .lt else if a = b then .eq else .gt
/-- How two values of one type stand to each other. -/
def cmpO (t n n' : Int) : Option Ordering := if t = 1 then some (cmpI n n') else FloatKind.f64.format.order (bitsOf n) (bitsOf n')
theorem bin_cmp {k : Nat} {t n n' : Int} (hk : k = 4 ∨ k = 5 ∨ k = 6 ∨ k = 7 ∨ k = 11 ∨ k = 12) (ht : t = 1 ∨ t = 2) : binK k t n t n' = ((3, boolN (ordB k (cmpO t n n'))), 0) := by
  rcases ht with rfl | rfl
  · have e : ∀ b c : Bool, b = c → (((3 : Int), boolN b), (0 : Int)) = ((3, boolN c), 0) := fun b c h => by rw [h]
    have : (n < n' ∧ cmpI n n' = .lt) ∨ (n = n' ∧ cmpI n n' = .eq) ∨ (n' < n ∧ cmpI n n' = .gt) := by
      unfold cmpI
      by_cases h1 : n < n'
      · exact .inl ⟨h1, by simp [h1]⟩
      · by_cases h2 : n = n'
        · exact .inr (.inl ⟨h2, by simp [h2]⟩)
        · exact .inr (.inr ⟨by omega, by simp [h1, h2]⟩)
    rcases hk with rfl | rfl | rfl | rfl | rfl | rfl <;> simp [binK, knownK, intsK, ordB, cmpO] <;> rcases this with ⟨h, h2⟩ | ⟨h, h2⟩ | ⟨h, h2⟩ <;> rw [h2] <;> simp [boolN] <;> omega
  · rcases hk with rfl | rfl | rfl | rfl | rfl | rfl <;> rfl
theorem compare_swap' (a b : Int) : compare a b = (compare b a).swap := by
  rw [Int.compare_swap]
theorem cmp_swap (t n n' : Int) : cmpO t n' n = (cmpO t n n').map Ordering.swap := by
  unfold cmpO
  split
  · simp only [cmpI, Option.map_some]
    by_cases h1 : n < n'
    · have : ¬ n' < n := by omega
      have h3 : ¬ n' = n := by omega
      simp [h1, this, h3]
    · by_cases h2 : n = n'
      · subst h2; simp
      · have : n' < n := by omega
        simp [h1, h2, this]
  · unfold Ieee.Format.order
    generalize FloatKind.f64.format.read (bitsOf n) = x
    generalize FloatKind.f64.format.read (bitsOf n') = y
    cases x <;> cases y <;> simp [Ieee.Datum.order]
    · rename_i a1 a2 p1 b1 b2 p2
      rw [Int.min_comm p2 p1, Int.compare_swap]
    · split <;> rfl
    · split <;> rfl
    · rename_i b1 b2; cases b1 <;> cases b2 <;> rfl
theorem cmp_none (n n' : Int) : (cmpO 2 n n' = none) = ((FloatKind.f64.format.order (bitsOf n) (bitsOf n) != some .eq) = true ∨ (FloatKind.f64.format.order (bitsOf n') (bitsOf n') != some .eq) = true) := by
  unfold cmpO
  simp only [Ieee.Format.order]
  generalize FloatKind.f64.format.read (bitsOf n) = x
  generalize FloatKind.f64.format.read (bitsOf n') = y
  cases x <;> cases y <;> simp [Ieee.Datum.order]
theorem sgs : sgnOf [60] = 4 ∧ sgnOf [61, 61] = 11 ∧ sgnOf [62] = 6 ∧ sgnOf [60, 61] = 5 ∧ sgnOf [62, 61] = 7 ∧ sgnOf [33, 61] = 12 := by decide
def ords3 : List (List UInt8) := [[60], [61, 61], [62]]
def cntO (c : Option Ordering) (i : Nat) : Int := (if 0 < i ∧ ordB 4 c = true then 1 else 0) + (if 1 < i ∧ ordB 11 c = true then 1 else 0) + (if 2 < i ∧ ordB 6 c = true then 1 else 0)
theorem tr_bool (b : Bool) : trueV 3 (boolN b) = b := by cases b <;> rfl
set_option maxHeartbeats 2000000 in
theorem valOrders_c (t n t' n' : Int) : PCall Try.prog 10 [valD t n, valD t' n'] (.bool true) := by
  refine PCall.run tb28_ok st10 (by simp) fun E => ?_
  simp (config := {maxSteps := 1000000}) only [s10, valD, cellsD, tb28_e, Int.natCast_nonneg, Nat.le_refl, Int.le_refl, List.take_succ_cons, List.take_zero, decide_true, decide_false, Bool.and_false, Bool.false_and, zz, zzN, zzF, fltEv, isArithF, ↓reduceIte, Nat.reduceEqDiff, Nat.reduceBEq, Int.reduceLT, Int.reduceLE, Int.reduceToNat, Int.reduceEq, Int.reduceAdd, Int.reduceSub, Int.reduceMul, Int.reduceNeg, Nat.reduceMul, Nat.reduceSub, Nat.reduceLeDiff, Nat.reduceLT, Int.reduceGT, Int.reduceBEq, Int.reduceBNe, reduceCtorEq, Nat.reduceAdd, Ins.map, Fr.ev, argFr, argE, binEv, intEv, shEv, strEv, unEv, Fr.mark, evRes, tup, lenD, lookupD, loadD, partD, storeD, cellsD, cellOk, setAt, objNe, objSame, eqEv, readEv, buildD, buildRows, rowsOf, elemsOf]
  intro i1 i2 a2_1 b2_1
  cases h1 : (t != t') with
  | true => simp (config := {maxSteps := 1000000}) only [h1, a2_1, b2_1, q28, tb28_e, Int.natCast_nonneg, Nat.le_refl, Int.le_refl, List.take_succ_cons, List.take_zero, decide_true, decide_false, Bool.and_false, Bool.false_and, zz, zzN, zzF, fltEv, isArithF, ↓reduceIte, Nat.reduceEqDiff, Nat.reduceBEq, Int.reduceLT, Int.reduceLE, Int.reduceToNat, Int.reduceEq, Int.reduceAdd, Int.reduceSub, Int.reduceMul, Int.reduceNeg, Nat.reduceMul, Nat.reduceSub, Nat.reduceLeDiff, Nat.reduceLT, Int.reduceGT, Int.reduceBEq, Int.reduceBNe, reduceCtorEq, Nat.reduceAdd, Ins.map, Fr.ev, argFr, argE, binEv, intEv, shEv, strEv, unEv, Fr.mark, evRes, tup, lenD, lookupD, loadD, partD, storeD, cellsD, cellOk, setAt, objNe, objSame, eqEv, readEv, buildD, buildRows, rowsOf, elemsOf]
  | false =>
    have htt : t = t' := by simpa using h1
    subst htt
    by_cases ht : t = 1 ∨ t = 2
    · rcases ht with rfl | rfl
      · obtain ⟨c, hc⟩ : ∃ c, c = cmpO 1 n n' := ⟨_, rfl⟩
        have hc2 := cmp_swap 1 n n'
        rw [← hc] at hc2
        have bc : ∀ k, k = 4 ∨ k = 5 ∨ k = 6 ∨ k = 7 ∨ k = 11 ∨ k = 12 → binK k 1 n 1 n' = ((3, boolN (ordB k c)), 0) := fun k hk => by rw [hc]; exact bin_cmp hk (by decide)
        have bs : binK 7 1 n' 1 n = ((3, boolN (ordB 7 (c.map Ordering.swap))), 0) := by rw [← hc2]; exact bin_cmp (by omega) (by decide)
        have b4 := bc 4 (by omega)
        have b5 := bc 5 (by omega)
        have b6 := bc 6 (by omega)
        have b11 := bc 11 (by omega)
        have b12 := bc 12 (by omega)
        have es : [[D.str [60]], [D.str [61, 61]], [D.str [62]]] = encS ords3 := rfl
        have z1 : IntKind.i64.wrap 1 = 1 := by decide
        have z2 : IntKind.i64.wrap 2 = 2 := by decide
        have z3 : IntKind.i64.wrap 3 = 3 := by decide
        simp (config := {maxSteps := 1000000}) only [h1, a2_1, b2_1, es, tb28_e, Int.natCast_nonneg, Nat.le_refl, Int.le_refl, List.take_succ_cons, List.take_zero, decide_true, decide_false, Bool.and_false, Bool.false_and, zz, zzN, zzF, fltEv, isArithF, ↓reduceIte, Nat.reduceEqDiff, Nat.reduceBEq, Int.reduceLT, Int.reduceLE, Int.reduceToNat, Int.reduceEq, Int.reduceAdd, Int.reduceSub, Int.reduceMul, Int.reduceNeg, Nat.reduceMul, Nat.reduceSub, Nat.reduceLeDiff, Nat.reduceLT, Int.reduceGT, Int.reduceBEq, Int.reduceBNe, reduceCtorEq, Nat.reduceAdd, Ins.map, Fr.ev, argFr, argE, binEv, intEv, shEv, strEv, unEv, Fr.mark, evRes, tup, lenD, lookupD, loadD, partD, storeD, cellsD, cellOk, setAt, objNe, objSame, eqEv, readEv, buildD, buildRows, rowsOf, elemsOf]
        refine run_loop (X := Nat) (fun i => [(2, .ptr i1 1 0), (3, .ptr i2 1 0), (5, .sl (encS ords3)), (6, .int .i64 (cntO c i)), (7, .int .i64 i)]) (fun _ => (AHeap.emp.set i1 (.cells [.int .i64 1, .int .i64 n])).set i2 (.cells [.int .i64 1, .int .i64 n'])) (fun i => 3 - i) (fun i => i ≤ 3) 0 (by simp) ?_ (AHeap.sub_refl _) ?_
        · simp only [Int.natCast_nonneg, Nat.le_refl, Int.le_refl, List.take_succ_cons, List.take_zero, decide_true, decide_false, Bool.and_false, Bool.false_and, zz, zzN, zzF, fltEv, isArithF, ↓reduceIte, Nat.reduceEqDiff, Nat.reduceBEq, Int.reduceLT, Int.reduceLE, Int.reduceToNat, Int.reduceEq, Int.reduceAdd, Int.reduceSub, Int.reduceMul, Int.reduceNeg, Nat.reduceMul, Nat.reduceSub, Nat.reduceLeDiff, Nat.reduceLT, Int.reduceGT, Int.reduceBEq, Int.reduceBNe, reduceCtorEq, Nat.reduceAdd, Ins.map, Fr.ev, argFr, argE, binEv, intEv, shEv, strEv, unEv, Fr.mark, evRes, tup, lenD, lookupD, loadD, partD, storeD, cellsD, cellOk, setAt, objNe, objSame, eqEv, readEv, buildD, buildRows, rowsOf, elemsOf]
          simp [cntO]
        intro i Q hi hQ
        have : i = 0 ∨ i = 1 ∨ i = 2 ∨ i = 3 := by omega
        rcases this with rfl | rfl | rfl | rfl
        · have hx : ords3[0]? = some [60] := rfl
          cases hb : ordB 4 c with
          | true =>
            have hw : IntKind.i64.wrap (cntO c 0 + 1) = cntO c (0 + 1) := by
              have e : cntO c (0 + 1) = cntO c 0 + 1 := by simp [cntO, hb]
              rw [wrap_i64 (by unfold cntO; (repeat' split) <;> omega) (by unfold cntO; (repeat' split) <;> omega), e]
            simp (config := {maxSteps := 1000000}) only [a2_1, b2_1, hx, hb, hw, z1, z2, z3, askE_encS, sgs, q26, b4, resD, valD, tb28_e, Int.natCast_nonneg, Nat.le_refl, Int.le_refl, List.take_succ_cons, List.take_zero, decide_true, decide_false, Bool.and_false, Bool.false_and, zz, zzN, zzF, fltEv, isArithF, ↓reduceIte, Nat.reduceEqDiff, Nat.reduceBEq, Int.reduceLT, Int.reduceLE, Int.reduceToNat, Int.reduceEq, Int.reduceAdd, Int.reduceSub, Int.reduceMul, Int.reduceNeg, Nat.reduceMul, Nat.reduceSub, Nat.reduceLeDiff, Nat.reduceLT, Int.reduceGT, Int.reduceBEq, Int.reduceBNe, reduceCtorEq, Nat.reduceAdd, Ins.map, Fr.ev, argFr, argE, binEv, intEv, shEv, strEv, unEv, Fr.mark, evRes, tup, lenD, lookupD, loadD, partD, storeD, cellsD, cellOk, setAt, objNe, objSame, eqEv, readEv, buildD, buildRows, rowsOf, elemsOf]
            refine ⟨by decide, fun i3 a1 a2 a3 a4 => ?_⟩
            simp (config := {maxSteps := 1000000}) only [a2_1, b2_1, a1, a2, a3, a4, q29, tr_bool, hb, hw, z1, z2, z3, tb28_e, Int.natCast_nonneg, Nat.le_refl, Int.le_refl, List.take_succ_cons, List.take_zero, decide_true, decide_false, Bool.and_false, Bool.false_and, zz, zzN, zzF, fltEv, isArithF, ↓reduceIte, Nat.reduceEqDiff, Nat.reduceBEq, Int.reduceLT, Int.reduceLE, Int.reduceToNat, Int.reduceEq, Int.reduceAdd, Int.reduceSub, Int.reduceMul, Int.reduceNeg, Nat.reduceMul, Nat.reduceSub, Nat.reduceLeDiff, Nat.reduceLT, Int.reduceGT, Int.reduceBEq, Int.reduceBNe, reduceCtorEq, Nat.reduceAdd, Ins.map, Fr.ev, argFr, argE, binEv, intEv, shEv, strEv, unEv, Fr.mark, evRes, tup, lenD, lookupD, loadD, partD, storeD, cellsD, cellOk, setAt, objNe, objSame, eqEv, readEv, buildD, buildRows, rowsOf, elemsOf]
            refine hQ (0 + 1) _ _ (by omega) ?_ ?_ (by omega)
            · simp only [Int.natCast_nonneg, Nat.le_refl, Int.le_refl, List.take_succ_cons, List.take_zero, decide_true, decide_false, Bool.and_false, Bool.false_and, zz, zzN, zzF, fltEv, isArithF, ↓reduceIte, Nat.reduceEqDiff, Nat.reduceBEq, Int.reduceLT, Int.reduceLE, Int.reduceToNat, Int.reduceEq, Int.reduceAdd, Int.reduceSub, Int.reduceMul, Int.reduceNeg, Nat.reduceMul, Nat.reduceSub, Nat.reduceLeDiff, Nat.reduceLT, Int.reduceGT, Int.reduceBEq, Int.reduceBNe, reduceCtorEq, Nat.reduceAdd, Ins.map, Fr.ev, argFr, argE, binEv, intEv, shEv, strEv, unEv, Fr.mark, evRes, tup, lenD, lookupD, loadD, partD, storeD, cellsD, cellOk, setAt, objNe, objSame, eqEv, readEv, buildD, buildRows, rowsOf, elemsOf]
            · exact AHeap.sub_X (by repeat' first | exact AHeap.subX_refl | exact AHeap.subX_emp | refine AHeap.subX_l (by simp [a2_1, b2_1, a1, a2, a3, a4]) ?_ | refine AHeap.subX_r (by simp [a2_1, b2_1, a1, a2, a3, a4]) ?_)
          | false =>
            have hw : cntO c (0 + 1) = cntO c 0 := by simp [cntO, hb]
            simp (config := {maxSteps := 1000000}) only [a2_1, b2_1, hx, hb, z1, z2, z3, askE_encS, sgs, q26, b4, resD, valD, tb28_e, Int.natCast_nonneg, Nat.le_refl, Int.le_refl, List.take_succ_cons, List.take_zero, decide_true, decide_false, Bool.and_false, Bool.false_and, zz, zzN, zzF, fltEv, isArithF, ↓reduceIte, Nat.reduceEqDiff, Nat.reduceBEq, Int.reduceLT, Int.reduceLE, Int.reduceToNat, Int.reduceEq, Int.reduceAdd, Int.reduceSub, Int.reduceMul, Int.reduceNeg, Nat.reduceMul, Nat.reduceSub, Nat.reduceLeDiff, Nat.reduceLT, Int.reduceGT, Int.reduceBEq, Int.reduceBNe, reduceCtorEq, Nat.reduceAdd, Ins.map, Fr.ev, argFr, argE, binEv, intEv, shEv, strEv, unEv, Fr.mark, evRes, tup, lenD, lookupD, loadD, partD, storeD, cellsD, cellOk, setAt, objNe, objSame, eqEv, readEv, buildD, buildRows, rowsOf, elemsOf]
            refine ⟨by decide, fun i3 a1 a2 a3 a4 => ?_⟩
            simp (config := {maxSteps := 1000000}) only [a2_1, b2_1, a1, a2, a3, a4, q29, tr_bool, hb, z1, z2, z3, tb28_e, Int.natCast_nonneg, Nat.le_refl, Int.le_refl, List.take_succ_cons, List.take_zero, decide_true, decide_false, Bool.and_false, Bool.false_and, zz, zzN, zzF, fltEv, isArithF, ↓reduceIte, Nat.reduceEqDiff, Nat.reduceBEq, Int.reduceLT, Int.reduceLE, Int.reduceToNat, Int.reduceEq, Int.reduceAdd, Int.reduceSub, Int.reduceMul, Int.reduceNeg, Nat.reduceMul, Nat.reduceSub, Nat.reduceLeDiff, Nat.reduceLT, Int.reduceGT, Int.reduceBEq, Int.reduceBNe, reduceCtorEq, Nat.reduceAdd, Ins.map, Fr.ev, argFr, argE, binEv, intEv, shEv, strEv, unEv, Fr.mark, evRes, tup, lenD, lookupD, loadD, partD, storeD, cellsD, cellOk, setAt, objNe, objSame, eqEv, readEv, buildD, buildRows, rowsOf, elemsOf]
            refine hQ (0 + 1) _ _ (by omega) ?_ ?_ (by omega)
            · simp only [hw, Int.natCast_nonneg, Nat.le_refl, Int.le_refl, List.take_succ_cons, List.take_zero, decide_true, decide_false, Bool.and_false, Bool.false_and, zz, zzN, zzF, fltEv, isArithF, ↓reduceIte, Nat.reduceEqDiff, Nat.reduceBEq, Int.reduceLT, Int.reduceLE, Int.reduceToNat, Int.reduceEq, Int.reduceAdd, Int.reduceSub, Int.reduceMul, Int.reduceNeg, Nat.reduceMul, Nat.reduceSub, Nat.reduceLeDiff, Nat.reduceLT, Int.reduceGT, Int.reduceBEq, Int.reduceBNe, reduceCtorEq, Nat.reduceAdd, Ins.map, Fr.ev, argFr, argE, binEv, intEv, shEv, strEv, unEv, Fr.mark, evRes, tup, lenD, lookupD, loadD, partD, storeD, cellsD, cellOk, setAt, objNe, objSame, eqEv, readEv, buildD, buildRows, rowsOf, elemsOf]
            · exact AHeap.sub_X (by repeat' first | exact AHeap.subX_refl | exact AHeap.subX_emp | refine AHeap.subX_l (by simp [a2_1, b2_1, a1, a2, a3, a4]) ?_ | refine AHeap.subX_r (by simp [a2_1, b2_1, a1, a2, a3, a4]) ?_)
        · have hx : ords3[1]? = some [61, 61] := rfl
          cases hb : ordB 11 c with
          | true =>
            have hw : IntKind.i64.wrap (cntO c 1 + 1) = cntO c (1 + 1) := by
              have e : cntO c (1 + 1) = cntO c 1 + 1 := by simp [cntO, hb]
              rw [wrap_i64 (by unfold cntO; (repeat' split) <;> omega) (by unfold cntO; (repeat' split) <;> omega), e]
            simp (config := {maxSteps := 1000000}) only [a2_1, b2_1, hx, hb, hw, z1, z2, z3, askE_encS, sgs, q26, b11, resD, valD, tb28_e, Int.natCast_nonneg, Nat.le_refl, Int.le_refl, List.take_succ_cons, List.take_zero, decide_true, decide_false, Bool.and_false, Bool.false_and, zz, zzN, zzF, fltEv, isArithF, ↓reduceIte, Nat.reduceEqDiff, Nat.reduceBEq, Int.reduceLT, Int.reduceLE, Int.reduceToNat, Int.reduceEq, Int.reduceAdd, Int.reduceSub, Int.reduceMul, Int.reduceNeg, Nat.reduceMul, Nat.reduceSub, Nat.reduceLeDiff, Nat.reduceLT, Int.reduceGT, Int.reduceBEq, Int.reduceBNe, reduceCtorEq, Nat.reduceAdd, Ins.map, Fr.ev, argFr, argE, binEv, intEv, shEv, strEv, unEv, Fr.mark, evRes, tup, lenD, lookupD, loadD, partD, storeD, cellsD, cellOk, setAt, objNe, objSame, eqEv, readEv, buildD, buildRows, rowsOf, elemsOf]
            refine ⟨by decide, fun i3 a1 a2 a3 a4 => ?_⟩
            simp (config := {maxSteps := 1000000}) only [a2_1, b2_1, a1, a2, a3, a4, q29, tr_bool, hb, hw, z1, z2, z3, tb28_e, Int.natCast_nonneg, Nat.le_refl, Int.le_refl, List.take_succ_cons, List.take_zero, decide_true, decide_false, Bool.and_false, Bool.false_and, zz, zzN, zzF, fltEv, isArithF, ↓reduceIte, Nat.reduceEqDiff, Nat.reduceBEq, Int.reduceLT, Int.reduceLE, Int.reduceToNat, Int.reduceEq, Int.reduceAdd, Int.reduceSub, Int.reduceMul, Int.reduceNeg, Nat.reduceMul, Nat.reduceSub, Nat.reduceLeDiff, Nat.reduceLT, Int.reduceGT, Int.reduceBEq, Int.reduceBNe, reduceCtorEq, Nat.reduceAdd, Ins.map, Fr.ev, argFr, argE, binEv, intEv, shEv, strEv, unEv, Fr.mark, evRes, tup, lenD, lookupD, loadD, partD, storeD, cellsD, cellOk, setAt, objNe, objSame, eqEv, readEv, buildD, buildRows, rowsOf, elemsOf]
            refine hQ (1 + 1) _ _ (by omega) ?_ ?_ (by omega)
            · simp only [Int.natCast_nonneg, Nat.le_refl, Int.le_refl, List.take_succ_cons, List.take_zero, decide_true, decide_false, Bool.and_false, Bool.false_and, zz, zzN, zzF, fltEv, isArithF, ↓reduceIte, Nat.reduceEqDiff, Nat.reduceBEq, Int.reduceLT, Int.reduceLE, Int.reduceToNat, Int.reduceEq, Int.reduceAdd, Int.reduceSub, Int.reduceMul, Int.reduceNeg, Nat.reduceMul, Nat.reduceSub, Nat.reduceLeDiff, Nat.reduceLT, Int.reduceGT, Int.reduceBEq, Int.reduceBNe, reduceCtorEq, Nat.reduceAdd, Ins.map, Fr.ev, argFr, argE, binEv, intEv, shEv, strEv, unEv, Fr.mark, evRes, tup, lenD, lookupD, loadD, partD, storeD, cellsD, cellOk, setAt, objNe, objSame, eqEv, readEv, buildD, buildRows, rowsOf, elemsOf]
            · exact AHeap.sub_X (by repeat' first | exact AHeap.subX_refl | exact AHeap.subX_emp | refine AHeap.subX_l (by simp [a2_1, b2_1, a1, a2, a3, a4]) ?_ | refine AHeap.subX_r (by simp [a2_1, b2_1, a1, a2, a3, a4]) ?_)
          | false =>
            have hw : cntO c (1 + 1) = cntO c 1 := by simp [cntO, hb]
            simp (config := {maxSteps := 1000000}) only [a2_1, b2_1, hx, hb, z1, z2, z3, askE_encS, sgs, q26, b11, resD, valD, tb28_e, Int.natCast_nonneg, Nat.le_refl, Int.le_refl, List.take_succ_cons, List.take_zero, decide_true, decide_false, Bool.and_false, Bool.false_and, zz, zzN, zzF, fltEv, isArithF, ↓reduceIte, Nat.reduceEqDiff, Nat.reduceBEq, Int.reduceLT, Int.reduceLE, Int.reduceToNat, Int.reduceEq, Int.reduceAdd, Int.reduceSub, Int.reduceMul, Int.reduceNeg, Nat.reduceMul, Nat.reduceSub, Nat.reduceLeDiff, Nat.reduceLT, Int.reduceGT, Int.reduceBEq, Int.reduceBNe, reduceCtorEq, Nat.reduceAdd, Ins.map, Fr.ev, argFr, argE, binEv, intEv, shEv, strEv, unEv, Fr.mark, evRes, tup, lenD, lookupD, loadD, partD, storeD, cellsD, cellOk, setAt, objNe, objSame, eqEv, readEv, buildD, buildRows, rowsOf, elemsOf]
            refine ⟨by decide, fun i3 a1 a2 a3 a4 => ?_⟩
            simp (config := {maxSteps := 1000000}) only [a2_1, b2_1, a1, a2, a3, a4, q29, tr_bool, hb, z1, z2, z3, tb28_e, Int.natCast_nonneg, Nat.le_refl, Int.le_refl, List.take_succ_cons, List.take_zero, decide_true, decide_false, Bool.and_false, Bool.false_and, zz, zzN, zzF, fltEv, isArithF, ↓reduceIte, Nat.reduceEqDiff, Nat.reduceBEq, Int.reduceLT, Int.reduceLE, Int.reduceToNat, Int.reduceEq, Int.reduceAdd, Int.reduceSub, Int.reduceMul, Int.reduceNeg, Nat.reduceMul, Nat.reduceSub, Nat.reduceLeDiff, Nat.reduceLT, Int.reduceGT, Int.reduceBEq, Int.reduceBNe, reduceCtorEq, Nat.reduceAdd, Ins.map, Fr.ev, argFr, argE, binEv, intEv, shEv, strEv, unEv, Fr.mark, evRes, tup, lenD, lookupD, loadD, partD, storeD, cellsD, cellOk, setAt, objNe, objSame, eqEv, readEv, buildD, buildRows, rowsOf, elemsOf]
            refine hQ (1 + 1) _ _ (by omega) ?_ ?_ (by omega)
            · simp only [hw, Int.natCast_nonneg, Nat.le_refl, Int.le_refl, List.take_succ_cons, List.take_zero, decide_true, decide_false, Bool.and_false, Bool.false_and, zz, zzN, zzF, fltEv, isArithF, ↓reduceIte, Nat.reduceEqDiff, Nat.reduceBEq, Int.reduceLT, Int.reduceLE, Int.reduceToNat, Int.reduceEq, Int.reduceAdd, Int.reduceSub, Int.reduceMul, Int.reduceNeg, Nat.reduceMul, Nat.reduceSub, Nat.reduceLeDiff, Nat.reduceLT, Int.reduceGT, Int.reduceBEq, Int.reduceBNe, reduceCtorEq, Nat.reduceAdd, Ins.map, Fr.ev, argFr, argE, binEv, intEv, shEv, strEv, unEv, Fr.mark, evRes, tup, lenD, lookupD, loadD, partD, storeD, cellsD, cellOk, setAt, objNe, objSame, eqEv, readEv, buildD, buildRows, rowsOf, elemsOf]
            · exact AHeap.sub_X (by repeat' first | exact AHeap.subX_refl | exact AHeap.subX_emp | refine AHeap.subX_l (by simp [a2_1, b2_1, a1, a2, a3, a4]) ?_ | refine AHeap.subX_r (by simp [a2_1, b2_1, a1, a2, a3, a4]) ?_)
        · have hx : ords3[2]? = some [62] := rfl
          cases hb : ordB 6 c with
          | true =>
            have hw : IntKind.i64.wrap (cntO c 2 + 1) = cntO c (2 + 1) := by
              have e : cntO c (2 + 1) = cntO c 2 + 1 := by simp [cntO, hb]
              rw [wrap_i64 (by unfold cntO; (repeat' split) <;> omega) (by unfold cntO; (repeat' split) <;> omega), e]
            simp (config := {maxSteps := 1000000}) only [a2_1, b2_1, hx, hb, hw, z1, z2, z3, askE_encS, sgs, q26, b6, resD, valD, tb28_e, Int.natCast_nonneg, Nat.le_refl, Int.le_refl, List.take_succ_cons, List.take_zero, decide_true, decide_false, Bool.and_false, Bool.false_and, zz, zzN, zzF, fltEv, isArithF, ↓reduceIte, Nat.reduceEqDiff, Nat.reduceBEq, Int.reduceLT, Int.reduceLE, Int.reduceToNat, Int.reduceEq, Int.reduceAdd, Int.reduceSub, Int.reduceMul, Int.reduceNeg, Nat.reduceMul, Nat.reduceSub, Nat.reduceLeDiff, Nat.reduceLT, Int.reduceGT, Int.reduceBEq, Int.reduceBNe, reduceCtorEq, Nat.reduceAdd, Ins.map, Fr.ev, argFr, argE, binEv, intEv, shEv, strEv, unEv, Fr.mark, evRes, tup, lenD, lookupD, loadD, partD, storeD, cellsD, cellOk, setAt, objNe, objSame, eqEv, readEv, buildD, buildRows, rowsOf, elemsOf]
            refine ⟨by decide, fun i3 a1 a2 a3 a4 => ?_⟩
            simp (config := {maxSteps := 1000000}) only [a2_1, b2_1, a1, a2, a3, a4, q29, tr_bool, hb, hw, z1, z2, z3, tb28_e, Int.natCast_nonneg, Nat.le_refl, Int.le_refl, List.take_succ_cons, List.take_zero, decide_true, decide_false, Bool.and_false, Bool.false_and, zz, zzN, zzF, fltEv, isArithF, ↓reduceIte, Nat.reduceEqDiff, Nat.reduceBEq, Int.reduceLT, Int.reduceLE, Int.reduceToNat, Int.reduceEq, Int.reduceAdd, Int.reduceSub, Int.reduceMul, Int.reduceNeg, Nat.reduceMul, Nat.reduceSub, Nat.reduceLeDiff, Nat.reduceLT, Int.reduceGT, Int.reduceBEq, Int.reduceBNe, reduceCtorEq, Nat.reduceAdd, Ins.map, Fr.ev, argFr, argE, binEv, intEv, shEv, strEv, unEv, Fr.mark, evRes, tup, lenD, lookupD, loadD, partD, storeD, cellsD, cellOk, setAt, objNe, objSame, eqEv, readEv, buildD, buildRows, rowsOf, elemsOf]
            refine hQ (2 + 1) _ _ (by omega) ?_ ?_ (by omega)
            · simp only [Int.natCast_nonneg, Nat.le_refl, Int.le_refl, List.take_succ_cons, List.take_zero, decide_true, decide_false, Bool.and_false, Bool.false_and, zz, zzN, zzF, fltEv, isArithF, ↓reduceIte, Nat.reduceEqDiff, Nat.reduceBEq, Int.reduceLT, Int.reduceLE, Int.reduceToNat, Int.reduceEq, Int.reduceAdd, Int.reduceSub, Int.reduceMul, Int.reduceNeg, Nat.reduceMul, Nat.reduceSub, Nat.reduceLeDiff, Nat.reduceLT, Int.reduceGT, Int.reduceBEq, Int.reduceBNe, reduceCtorEq, Nat.reduceAdd, Ins.map, Fr.ev, argFr, argE, binEv, intEv, shEv, strEv, unEv, Fr.mark, evRes, tup, lenD, lookupD, loadD, partD, storeD, cellsD, cellOk, setAt, objNe, objSame, eqEv, readEv, buildD, buildRows, rowsOf, elemsOf]
            · exact AHeap.sub_X (by repeat' first | exact AHeap.subX_refl | exact AHeap.subX_emp | refine AHeap.subX_l (by simp [a2_1, b2_1, a1, a2, a3, a4]) ?_ | refine AHeap.subX_r (by simp [a2_1, b2_1, a1, a2, a3, a4]) ?_)
          | false =>
            have hw : cntO c (2 + 1) = cntO c 2 := by simp [cntO, hb]
            simp (config := {maxSteps := 1000000}) only [a2_1, b2_1, hx, hb, z1, z2, z3, askE_encS, sgs, q26, b6, resD, valD, tb28_e, Int.natCast_nonneg, Nat.le_refl, Int.le_refl, List.take_succ_cons, List.take_zero, decide_true, decide_false, Bool.and_false, Bool.false_and, zz, zzN, zzF, fltEv, isArithF, ↓reduceIte, Nat.reduceEqDiff, Nat.reduceBEq, Int.reduceLT, Int.reduceLE, Int.reduceToNat, Int.reduceEq, Int.reduceAdd, Int.reduceSub, Int.reduceMul, Int.reduceNeg, Nat.reduceMul, Nat.reduceSub, Nat.reduceLeDiff, Nat.reduceLT, Int.reduceGT, Int.reduceBEq, Int.reduceBNe, reduceCtorEq, Nat.reduceAdd, Ins.map, Fr.ev, argFr, argE, binEv, intEv, shEv, strEv, unEv, Fr.mark, evRes, tup, lenD, lookupD, loadD, partD, storeD, cellsD, cellOk, setAt, objNe, objSame, eqEv, readEv, buildD, buildRows, rowsOf, elemsOf]
            refine ⟨by decide, fun i3 a1 a2 a3 a4 => ?_⟩
            simp (config := {maxSteps := 1000000}) only [a2_1, b2_1, a1, a2, a3, a4, q29, tr_bool, hb, z1, z2, z3, tb28_e, Int.natCast_nonneg, Nat.le_refl, Int.le_refl, List.take_succ_cons, List.take_zero, decide_true, decide_false, Bool.and_false, Bool.false_and, zz, zzN, zzF, fltEv, isArithF, ↓reduceIte, Nat.reduceEqDiff, Nat.reduceBEq, Int.reduceLT, Int.reduceLE, Int.reduceToNat, Int.reduceEq, Int.reduceAdd, Int.reduceSub, Int.reduceMul, Int.reduceNeg, Nat.reduceMul, Nat.reduceSub, Nat.reduceLeDiff, Nat.reduceLT, Int.reduceGT, Int.reduceBEq, Int.reduceBNe, reduceCtorEq, Nat.reduceAdd, Ins.map, Fr.ev, argFr, argE, binEv, intEv, shEv, strEv, unEv, Fr.mark, evRes, tup, lenD, lookupD, loadD, partD, storeD, cellsD, cellOk, setAt, objNe, objSame, eqEv, readEv, buildD, buildRows, rowsOf, elemsOf]
            refine hQ (2 + 1) _ _ (by omega) ?_ ?_ (by omega)
            · simp only [hw, Int.natCast_nonneg, Nat.le_refl, Int.le_refl, List.take_succ_cons, List.take_zero, decide_true, decide_false, Bool.and_false, Bool.false_and, zz, zzN, zzF, fltEv, isArithF, ↓reduceIte, Nat.reduceEqDiff, Nat.reduceBEq, Int.reduceLT, Int.reduceLE, Int.reduceToNat, Int.reduceEq, Int.reduceAdd, Int.reduceSub, Int.reduceMul, Int.reduceNeg, Nat.reduceMul, Nat.reduceSub, Nat.reduceLeDiff, Nat.reduceLT, Int.reduceGT, Int.reduceBEq, Int.reduceBNe, reduceCtorEq, Nat.reduceAdd, Ins.map, Fr.ev, argFr, argE, binEv, intEv, shEv, strEv, unEv, Fr.mark, evRes, tup, lenD, lookupD, loadD, partD, storeD, cellsD, cellOk, setAt, objNe, objSame, eqEv, readEv, buildD, buildRows, rowsOf, elemsOf]
            · exact AHeap.sub_X (by repeat' first | exact AHeap.subX_refl | exact AHeap.subX_emp | refine AHeap.subX_l (by simp [a2_1, b2_1, a1, a2, a3, a4]) ?_ | refine AHeap.subX_r (by simp [a2_1, b2_1, a1, a2, a3, a4]) ?_)
        · cases c with
          | none =>
            cases hc
          | some o =>
            cases o with
            | lt =>
              have v3 : cntO (some .lt) 3 = 1 := by decide
              have o5 : ordB 5 (some .lt) = true := by decide
              have o7 : ordB 7 (Option.map Ordering.swap (some .lt)) = true := by decide
              have o11 : ordB 11 (some .lt) = false := by decide
              have o12 : ordB 12 (some .lt) = true := by decide
              simp (config := {maxSteps := 1000000}) only [a2_1, b2_1, v3, o5, o7, o11, o12, sgs, q26, q29, q30, q28, b5, bs, b11, b12, tr_bool, resD, valD, eqEv, tb28_e, Int.natCast_nonneg, Nat.le_refl, Int.le_refl, List.take_succ_cons, List.take_zero, decide_true, decide_false, Bool.and_false, Bool.false_and, zz, zzN, zzF, fltEv, isArithF, ↓reduceIte, Nat.reduceEqDiff, Nat.reduceBEq, Int.reduceLT, Int.reduceLE, Int.reduceToNat, Int.reduceEq, Int.reduceAdd, Int.reduceSub, Int.reduceMul, Int.reduceNeg, Nat.reduceMul, Nat.reduceSub, Nat.reduceLeDiff, Nat.reduceLT, Int.reduceGT, Int.reduceBEq, Int.reduceBNe, reduceCtorEq, Nat.reduceAdd, Ins.map, Fr.ev, argFr, argE, binEv, intEv, shEv, strEv, unEv, Fr.mark, evRes, tup, lenD, lookupD, loadD, partD, storeD, cellsD, cellOk, setAt, objNe, objSame, eqEv, readEv, buildD, buildRows, rowsOf, elemsOf]
              intro i3 a3_2 b3_2 a3_1 b3_1
              simp (config := {maxSteps := 1000000}) only [a2_1, b2_1, a3_2, b3_2, a3_1, b3_1, v3, o5, o7, o11, o12, sgs, q26, q29, q30, q28, b5, bs, b11, b12, tr_bool, resD, valD, eqEv, tb28_e, Int.natCast_nonneg, Nat.le_refl, Int.le_refl, List.take_succ_cons, List.take_zero, decide_true, decide_false, Bool.and_false, Bool.false_and, zz, zzN, zzF, fltEv, isArithF, ↓reduceIte, Nat.reduceEqDiff, Nat.reduceBEq, Int.reduceLT, Int.reduceLE, Int.reduceToNat, Int.reduceEq, Int.reduceAdd, Int.reduceSub, Int.reduceMul, Int.reduceNeg, Nat.reduceMul, Nat.reduceSub, Nat.reduceLeDiff, Nat.reduceLT, Int.reduceGT, Int.reduceBEq, Int.reduceBNe, reduceCtorEq, Nat.reduceAdd, Ins.map, Fr.ev, argFr, argE, binEv, intEv, shEv, strEv, unEv, Fr.mark, evRes, tup, lenD, lookupD, loadD, partD, storeD, cellsD, cellOk, setAt, objNe, objSame, eqEv, readEv, buildD, buildRows, rowsOf, elemsOf]
              intro i4 a4_3 b4_3 a4_2 b4_2 a4_1 b4_1
              simp (config := {maxSteps := 1000000}) only [a2_1, b2_1, a3_2, b3_2, a3_1, b3_1, a4_3, b4_3, a4_2, b4_2, a4_1, b4_1, v3, o5, o7, o11, o12, sgs, q26, q29, q30, q28, b5, bs, b11, b12, tr_bool, resD, valD, eqEv, tb28_e, Int.natCast_nonneg, Nat.le_refl, Int.le_refl, List.take_succ_cons, List.take_zero, decide_true, decide_false, Bool.and_false, Bool.false_and, zz, zzN, zzF, fltEv, isArithF, ↓reduceIte, Nat.reduceEqDiff, Nat.reduceBEq, Int.reduceLT, Int.reduceLE, Int.reduceToNat, Int.reduceEq, Int.reduceAdd, Int.reduceSub, Int.reduceMul, Int.reduceNeg, Nat.reduceMul, Nat.reduceSub, Nat.reduceLeDiff, Nat.reduceLT, Int.reduceGT, Int.reduceBEq, Int.reduceBNe, reduceCtorEq, Nat.reduceAdd, Ins.map, Fr.ev, argFr, argE, binEv, intEv, shEv, strEv, unEv, Fr.mark, evRes, tup, lenD, lookupD, loadD, partD, storeD, cellsD, cellOk, setAt, objNe, objSame, eqEv, readEv, buildD, buildRows, rowsOf, elemsOf]
              intro i5 a5_4 b5_4 a5_3 b5_3 a5_2 b5_2 a5_1 b5_1
              simp (config := {maxSteps := 1000000}) only [a2_1, b2_1, a3_2, b3_2, a3_1, b3_1, a4_3, b4_3, a4_2, b4_2, a4_1, b4_1, a5_4, b5_4, a5_3, b5_3, a5_2, b5_2, a5_1, b5_1, v3, o5, o7, o11, o12, sgs, q26, q29, q30, q28, b5, bs, b11, b12, tr_bool, resD, valD, eqEv, tb28_e, Int.natCast_nonneg, Nat.le_refl, Int.le_refl, List.take_succ_cons, List.take_zero, decide_true, decide_false, Bool.and_false, Bool.false_and, zz, zzN, zzF, fltEv, isArithF, ↓reduceIte, Nat.reduceEqDiff, Nat.reduceBEq, Int.reduceLT, Int.reduceLE, Int.reduceToNat, Int.reduceEq, Int.reduceAdd, Int.reduceSub, Int.reduceMul, Int.reduceNeg, Nat.reduceMul, Nat.reduceSub, Nat.reduceLeDiff, Nat.reduceLT, Int.reduceGT, Int.reduceBEq, Int.reduceBNe, reduceCtorEq, Nat.reduceAdd, Ins.map, Fr.ev, argFr, argE, binEv, intEv, shEv, strEv, unEv, Fr.mark, evRes, tup, lenD, lookupD, loadD, partD, storeD, cellsD, cellOk, setAt, objNe, objSame, eqEv, readEv, buildD, buildRows, rowsOf, elemsOf]
              intro i6 a6_5 b6_5 a6_4 b6_4 a6_3 b6_3 a6_2 b6_2 a6_1 b6_1
              simp (config := {maxSteps := 1000000}) only [a2_1, b2_1, a3_2, b3_2, a3_1, b3_1, a4_3, b4_3, a4_2, b4_2, a4_1, b4_1, a5_4, b5_4, a5_3, b5_3, a5_2, b5_2, a5_1, b5_1, a6_5, b6_5, a6_4, b6_4, a6_3, b6_3, a6_2, b6_2, a6_1, b6_1, v3, o5, o7, o11, o12, sgs, q26, q29, q30, q28, b5, bs, b11, b12, tr_bool, resD, valD, eqEv, tb28_e, Int.natCast_nonneg, Nat.le_refl, Int.le_refl, List.take_succ_cons, List.take_zero, decide_true, decide_false, Bool.and_false, Bool.false_and, zz, zzN, zzF, fltEv, isArithF, ↓reduceIte, Nat.reduceEqDiff, Nat.reduceBEq, Int.reduceLT, Int.reduceLE, Int.reduceToNat, Int.reduceEq, Int.reduceAdd, Int.reduceSub, Int.reduceMul, Int.reduceNeg, Nat.reduceMul, Nat.reduceSub, Nat.reduceLeDiff, Nat.reduceLT, Int.reduceGT, Int.reduceBEq, Int.reduceBNe, reduceCtorEq, Nat.reduceAdd, Ins.map, Fr.ev, argFr, argE, binEv, intEv, shEv, strEv, unEv, Fr.mark, evRes, tup, lenD, lookupD, loadD, partD, storeD, cellsD, cellOk, setAt, objNe, objSame, eqEv, readEv, buildD, buildRows, rowsOf, elemsOf]
              decide
            | eq =>
              have v3 : cntO (some .eq) 3 = 1 := by decide
              have o5 : ordB 5 (some .eq) = true := by decide
              have o7 : ordB 7 (Option.map Ordering.swap (some .eq)) = true := by decide
              have o11 : ordB 11 (some .eq) = true := by decide
              have o12 : ordB 12 (some .eq) = false := by decide
              simp (config := {maxSteps := 1000000}) only [a2_1, b2_1, v3, o5, o7, o11, o12, sgs, q26, q29, q30, q28, b5, bs, b11, b12, tr_bool, resD, valD, eqEv, tb28_e, Int.natCast_nonneg, Nat.le_refl, Int.le_refl, List.take_succ_cons, List.take_zero, decide_true, decide_false, Bool.and_false, Bool.false_and, zz, zzN, zzF, fltEv, isArithF, ↓reduceIte, Nat.reduceEqDiff, Nat.reduceBEq, Int.reduceLT, Int.reduceLE, Int.reduceToNat, Int.reduceEq, Int.reduceAdd, Int.reduceSub, Int.reduceMul, Int.reduceNeg, Nat.reduceMul, Nat.reduceSub, Nat.reduceLeDiff, Nat.reduceLT, Int.reduceGT, Int.reduceBEq, Int.reduceBNe, reduceCtorEq, Nat.reduceAdd, Ins.map, Fr.ev, argFr, argE, binEv, intEv, shEv, strEv, unEv, Fr.mark, evRes, tup, lenD, lookupD, loadD, partD, storeD, cellsD, cellOk, setAt, objNe, objSame, eqEv, readEv, buildD, buildRows, rowsOf, elemsOf]
              intro i3 a3_2 b3_2 a3_1 b3_1
              simp (config := {maxSteps := 1000000}) only [a2_1, b2_1, a3_2, b3_2, a3_1, b3_1, v3, o5, o7, o11, o12, sgs, q26, q29, q30, q28, b5, bs, b11, b12, tr_bool, resD, valD, eqEv, tb28_e, Int.natCast_nonneg, Nat.le_refl, Int.le_refl, List.take_succ_cons, List.take_zero, decide_true, decide_false, Bool.and_false, Bool.false_and, zz, zzN, zzF, fltEv, isArithF, ↓reduceIte, Nat.reduceEqDiff, Nat.reduceBEq, Int.reduceLT, Int.reduceLE, Int.reduceToNat, Int.reduceEq, Int.reduceAdd, Int.reduceSub, Int.reduceMul, Int.reduceNeg, Nat.reduceMul, Nat.reduceSub, Nat.reduceLeDiff, Nat.reduceLT, Int.reduceGT, Int.reduceBEq, Int.reduceBNe, reduceCtorEq, Nat.reduceAdd, Ins.map, Fr.ev, argFr, argE, binEv, intEv, shEv, strEv, unEv, Fr.mark, evRes, tup, lenD, lookupD, loadD, partD, storeD, cellsD, cellOk, setAt, objNe, objSame, eqEv, readEv, buildD, buildRows, rowsOf, elemsOf]
              intro i4 a4_3 b4_3 a4_2 b4_2 a4_1 b4_1
              simp (config := {maxSteps := 1000000}) only [a2_1, b2_1, a3_2, b3_2, a3_1, b3_1, a4_3, b4_3, a4_2, b4_2, a4_1, b4_1, v3, o5, o7, o11, o12, sgs, q26, q29, q30, q28, b5, bs, b11, b12, tr_bool, resD, valD, eqEv, tb28_e, Int.natCast_nonneg, Nat.le_refl, Int.le_refl, List.take_succ_cons, List.take_zero, decide_true, decide_false, Bool.and_false, Bool.false_and, zz, zzN, zzF, fltEv, isArithF, ↓reduceIte, Nat.reduceEqDiff, Nat.reduceBEq, Int.reduceLT, Int.reduceLE, Int.reduceToNat, Int.reduceEq, Int.reduceAdd, Int.reduceSub, Int.reduceMul, Int.reduceNeg, Nat.reduceMul, Nat.reduceSub, Nat.reduceLeDiff, Nat.reduceLT, Int.reduceGT, Int.reduceBEq, Int.reduceBNe, reduceCtorEq, Nat.reduceAdd, Ins.map, Fr.ev, argFr, argE, binEv, intEv, shEv, strEv, unEv, Fr.mark, evRes, tup, lenD, lookupD, loadD, partD, storeD, cellsD, cellOk, setAt, objNe, objSame, eqEv, readEv, buildD, buildRows, rowsOf, elemsOf]
              intro i5 a5_4 b5_4 a5_3 b5_3 a5_2 b5_2 a5_1 b5_1
              simp (config := {maxSteps := 1000000}) only [a2_1, b2_1, a3_2, b3_2, a3_1, b3_1, a4_3, b4_3, a4_2, b4_2, a4_1, b4_1, a5_4, b5_4, a5_3, b5_3, a5_2, b5_2, a5_1, b5_1, v3, o5, o7, o11, o12, sgs, q26, q29, q30, q28, b5, bs, b11, b12, tr_bool, resD, valD, eqEv, tb28_e, Int.natCast_nonneg, Nat.le_refl, Int.le_refl, List.take_succ_cons, List.take_zero, decide_true, decide_false, Bool.and_false, Bool.false_and, zz, zzN, zzF, fltEv, isArithF, ↓reduceIte, Nat.reduceEqDiff, Nat.reduceBEq, Int.reduceLT, Int.reduceLE, Int.reduceToNat, Int.reduceEq, Int.reduceAdd, Int.reduceSub, Int.reduceMul, Int.reduceNeg, Nat.reduceMul, Nat.reduceSub, Nat.reduceLeDiff, Nat.reduceLT, Int.reduceGT, Int.reduceBEq, Int.reduceBNe, reduceCtorEq, Nat.reduceAdd, Ins.map, Fr.ev, argFr, argE, binEv, intEv, shEv, strEv, unEv, Fr.mark, evRes, tup, lenD, lookupD, loadD, partD, storeD, cellsD, cellOk, setAt, objNe, objSame, eqEv, readEv, buildD, buildRows, rowsOf, elemsOf]
              intro i6 a6_5 b6_5 a6_4 b6_4 a6_3 b6_3 a6_2 b6_2 a6_1 b6_1
              simp (config := {maxSteps := 1000000}) only [a2_1, b2_1, a3_2, b3_2, a3_1, b3_1, a4_3, b4_3, a4_2, b4_2, a4_1, b4_1, a5_4, b5_4, a5_3, b5_3, a5_2, b5_2, a5_1, b5_1, a6_5, b6_5, a6_4, b6_4, a6_3, b6_3, a6_2, b6_2, a6_1, b6_1, v3, o5, o7, o11, o12, sgs, q26, q29, q30, q28, b5, bs, b11, b12, tr_bool, resD, valD, eqEv, tb28_e, Int.natCast_nonneg, Nat.le_refl, Int.le_refl, List.take_succ_cons, List.take_zero, decide_true, decide_false, Bool.and_false, Bool.false_and, zz, zzN, zzF, fltEv, isArithF, ↓reduceIte, Nat.reduceEqDiff, Nat.reduceBEq, Int.reduceLT, Int.reduceLE, Int.reduceToNat, Int.reduceEq, Int.reduceAdd, Int.reduceSub, Int.reduceMul, Int.reduceNeg, Nat.reduceMul, Nat.reduceSub, Nat.reduceLeDiff, Nat.reduceLT, Int.reduceGT, Int.reduceBEq, Int.reduceBNe, reduceCtorEq, Nat.reduceAdd, Ins.map, Fr.ev, argFr, argE, binEv, intEv, shEv, strEv, unEv, Fr.mark, evRes, tup, lenD, lookupD, loadD, partD, storeD, cellsD, cellOk, setAt, objNe, objSame, eqEv, readEv, buildD, buildRows, rowsOf, elemsOf]
              decide
            | gt =>
              have v3 : cntO (some .gt) 3 = 1 := by decide
              have o5 : ordB 5 (some .gt) = false := by decide
              have o7 : ordB 7 (Option.map Ordering.swap (some .gt)) = false := by decide
              have o11 : ordB 11 (some .gt) = false := by decide
              have o12 : ordB 12 (some .gt) = true := by decide
              simp (config := {maxSteps := 1000000}) only [a2_1, b2_1, v3, o5, o7, o11, o12, sgs, q26, q29, q30, q28, b5, bs, b11, b12, tr_bool, resD, valD, eqEv, tb28_e, Int.natCast_nonneg, Nat.le_refl, Int.le_refl, List.take_succ_cons, List.take_zero, decide_true, decide_false, Bool.and_false, Bool.false_and, zz, zzN, zzF, fltEv, isArithF, ↓reduceIte, Nat.reduceEqDiff, Nat.reduceBEq, Int.reduceLT, Int.reduceLE, Int.reduceToNat, Int.reduceEq, Int.reduceAdd, Int.reduceSub, Int.reduceMul, Int.reduceNeg, Nat.reduceMul, Nat.reduceSub, Nat.reduceLeDiff, Nat.reduceLT, Int.reduceGT, Int.reduceBEq, Int.reduceBNe, reduceCtorEq, Nat.reduceAdd, Ins.map, Fr.ev, argFr, argE, binEv, intEv, shEv, strEv, unEv, Fr.mark, evRes, tup, lenD, lookupD, loadD, partD, storeD, cellsD, cellOk, setAt, objNe, objSame, eqEv, readEv, buildD, buildRows, rowsOf, elemsOf]
              intro i3 a3_2 b3_2 a3_1 b3_1
              simp (config := {maxSteps := 1000000}) only [a2_1, b2_1, a3_2, b3_2, a3_1, b3_1, v3, o5, o7, o11, o12, sgs, q26, q29, q30, q28, b5, bs, b11, b12, tr_bool, resD, valD, eqEv, tb28_e, Int.natCast_nonneg, Nat.le_refl, Int.le_refl, List.take_succ_cons, List.take_zero, decide_true, decide_false, Bool.and_false, Bool.false_and, zz, zzN, zzF, fltEv, isArithF, ↓reduceIte, Nat.reduceEqDiff, Nat.reduceBEq, Int.reduceLT, Int.reduceLE, Int.reduceToNat, Int.reduceEq, Int.reduceAdd, Int.reduceSub, Int.reduceMul, Int.reduceNeg, Nat.reduceMul, Nat.reduceSub, Nat.reduceLeDiff, Nat.reduceLT, Int.reduceGT, Int.reduceBEq, Int.reduceBNe, reduceCtorEq, Nat.reduceAdd, Ins.map, Fr.ev, argFr, argE, binEv, intEv, shEv, strEv, unEv, Fr.mark, evRes, tup, lenD, lookupD, loadD, partD, storeD, cellsD, cellOk, setAt, objNe, objSame, eqEv, readEv, buildD, buildRows, rowsOf, elemsOf]
              intro i4 a4_3 b4_3 a4_2 b4_2 a4_1 b4_1
              simp (config := {maxSteps := 1000000}) only [a2_1, b2_1, a3_2, b3_2, a3_1, b3_1, a4_3, b4_3, a4_2, b4_2, a4_1, b4_1, v3, o5, o7, o11, o12, sgs, q26, q29, q30, q28, b5, bs, b11, b12, tr_bool, resD, valD, eqEv, tb28_e, Int.natCast_nonneg, Nat.le_refl, Int.le_refl, List.take_succ_cons, List.take_zero, decide_true, decide_false, Bool.and_false, Bool.false_and, zz, zzN, zzF, fltEv, isArithF, ↓reduceIte, Nat.reduceEqDiff, Nat.reduceBEq, Int.reduceLT, Int.reduceLE, Int.reduceToNat, Int.reduceEq, Int.reduceAdd, Int.reduceSub, Int.reduceMul, Int.reduceNeg, Nat.reduceMul, Nat.reduceSub, Nat.reduceLeDiff, Nat.reduceLT, Int.reduceGT, Int.reduceBEq, Int.reduceBNe, reduceCtorEq, Nat.reduceAdd, Ins.map, Fr.ev, argFr, argE, binEv, intEv, shEv, strEv, unEv, Fr.mark, evRes, tup, lenD, lookupD, loadD, partD, storeD, cellsD, cellOk, setAt, objNe, objSame, eqEv, readEv, buildD, buildRows, rowsOf, elemsOf]
              intro i5 a5_4 b5_4 a5_3 b5_3 a5_2 b5_2 a5_1 b5_1
              simp (config := {maxSteps := 1000000}) only [a2_1, b2_1, a3_2, b3_2, a3_1, b3_1, a4_3, b4_3, a4_2, b4_2, a4_1, b4_1, a5_4, b5_4, a5_3, b5_3, a5_2, b5_2, a5_1, b5_1, v3, o5, o7, o11, o12, sgs, q26, q29, q30, q28, b5, bs, b11, b12, tr_bool, resD, valD, eqEv, tb28_e, Int.natCast_nonneg, Nat.le_refl, Int.le_refl, List.take_succ_cons, List.take_zero, decide_true, decide_false, Bool.and_false, Bool.false_and, zz, zzN, zzF, fltEv, isArithF, ↓reduceIte, Nat.reduceEqDiff, Nat.reduceBEq, Int.reduceLT, Int.reduceLE, Int.reduceToNat, Int.reduceEq, Int.reduceAdd, Int.reduceSub, Int.reduceMul, Int.reduceNeg, Nat.reduceMul, Nat.reduceSub, Nat.reduceLeDiff, Nat.reduceLT, Int.reduceGT, Int.reduceBEq, Int.reduceBNe, reduceCtorEq, Nat.reduceAdd, Ins.map, Fr.ev, argFr, argE, binEv, intEv, shEv, strEv, unEv, Fr.mark, evRes, tup, lenD, lookupD, loadD, partD, storeD, cellsD, cellOk, setAt, objNe, objSame, eqEv, readEv, buildD, buildRows, rowsOf, elemsOf]
              intro i6 a6_5 b6_5 a6_4 b6_4 a6_3 b6_3 a6_2 b6_2 a6_1 b6_1
              simp (config := {maxSteps := 1000000}) only [a2_1, b2_1, a3_2, b3_2, a3_1, b3_1, a4_3, b4_3, a4_2, b4_2, a4_1, b4_1, a5_4, b5_4, a5_3, b5_3, a5_2, b5_2, a5_1, b5_1, a6_5, b6_5, a6_4, b6_4, a6_3, b6_3, a6_2, b6_2, a6_1, b6_1, v3, o5, o7, o11, o12, sgs, q26, q29, q30, q28, b5, bs, b11, b12, tr_bool, resD, valD, eqEv, tb28_e, Int.natCast_nonneg, Nat.le_refl, Int.le_refl, List.take_succ_cons, List.take_zero, decide_true, decide_false, Bool.and_false, Bool.false_and, zz, zzN, zzF, fltEv, isArithF, ↓reduceIte, Nat.reduceEqDiff, Nat.reduceBEq, Int.reduceLT, Int.reduceLE, Int.reduceToNat, Int.reduceEq, Int.reduceAdd, Int.reduceSub, Int.reduceMul, Int.reduceNeg, Nat.reduceMul, Nat.reduceSub, Nat.reduceLeDiff, Nat.reduceLT, Int.reduceGT, Int.reduceBEq, Int.reduceBNe, reduceCtorEq, Nat.reduceAdd, Ins.map, Fr.ev, argFr, argE, binEv, intEv, shEv, strEv, unEv, Fr.mark, evRes, tup, lenD, lookupD, loadD, partD, storeD, cellsD, cellOk, setAt, objNe, objSame, eqEv, readEv, buildD, buildRows, rowsOf, elemsOf]
              decide
      · obtain ⟨c, hc⟩ : ∃ c, c = cmpO 2 n n' := ⟨_, rfl⟩
        have hc2 := cmp_swap 2 n n'
        rw [← hc] at hc2
        have bc : ∀ k, k = 4 ∨ k = 5 ∨ k = 6 ∨ k = 7 ∨ k = 11 ∨ k = 12 → binK k 2 n 2 n' = ((3, boolN (ordB k c)), 0) := fun k hk => by rw [hc]; exact bin_cmp hk (by decide)
        have bs : binK 7 2 n' 2 n = ((3, boolN (ordB 7 (c.map Ordering.swap))), 0) := by rw [← hc2]; exact bin_cmp (by omega) (by decide)
        have b4 := bc 4 (by omega)
        have b5 := bc 5 (by omega)
        have b6 := bc 6 (by omega)
        have b11 := bc 11 (by omega)
        have b12 := bc 12 (by omega)
        have es : [[D.str [60]], [D.str [61, 61]], [D.str [62]]] = encS ords3 := rfl
        have z1 : IntKind.i64.wrap 1 = 1 := by decide
        have z2 : IntKind.i64.wrap 2 = 2 := by decide
        have z3 : IntKind.i64.wrap 3 = 3 := by decide
        simp (config := {maxSteps := 1000000}) only [h1, a2_1, b2_1, es, tb28_e, Int.natCast_nonneg, Nat.le_refl, Int.le_refl, List.take_succ_cons, List.take_zero, decide_true, decide_false, Bool.and_false, Bool.false_and, zz, zzN, zzF, fltEv, isArithF, ↓reduceIte, Nat.reduceEqDiff, Nat.reduceBEq, Int.reduceLT, Int.reduceLE, Int.reduceToNat, Int.reduceEq, Int.reduceAdd, Int.reduceSub, Int.reduceMul, Int.reduceNeg, Nat.reduceMul, Nat.reduceSub, Nat.reduceLeDiff, Nat.reduceLT, Int.reduceGT, Int.reduceBEq, Int.reduceBNe, reduceCtorEq, Nat.reduceAdd, Ins.map, Fr.ev, argFr, argE, binEv, intEv, shEv, strEv, unEv, Fr.mark, evRes, tup, lenD, lookupD, loadD, partD, storeD, cellsD, cellOk, setAt, objNe, objSame, eqEv, readEv, buildD, buildRows, rowsOf, elemsOf]
        refine run_loop (X := Nat) (fun i => [(2, .ptr i1 1 0), (3, .ptr i2 1 0), (5, .sl (encS ords3)), (6, .int .i64 (cntO c i)), (7, .int .i64 i)]) (fun _ => (AHeap.emp.set i1 (.cells [.int .i64 2, .int .i64 n])).set i2 (.cells [.int .i64 2, .int .i64 n'])) (fun i => 3 - i) (fun i => i ≤ 3) 0 (by simp) ?_ (AHeap.sub_refl _) ?_
        · simp only [Int.natCast_nonneg, Nat.le_refl, Int.le_refl, List.take_succ_cons, List.take_zero, decide_true, decide_false, Bool.and_false, Bool.false_and, zz, zzN, zzF, fltEv, isArithF, ↓reduceIte, Nat.reduceEqDiff, Nat.reduceBEq, Int.reduceLT, Int.reduceLE, Int.reduceToNat, Int.reduceEq, Int.reduceAdd, Int.reduceSub, Int.reduceMul, Int.reduceNeg, Nat.reduceMul, Nat.reduceSub, Nat.reduceLeDiff, Nat.reduceLT, Int.reduceGT, Int.reduceBEq, Int.reduceBNe, reduceCtorEq, Nat.reduceAdd, Ins.map, Fr.ev, argFr, argE, binEv, intEv, shEv, strEv, unEv, Fr.mark, evRes, tup, lenD, lookupD, loadD, partD, storeD, cellsD, cellOk, setAt, objNe, objSame, eqEv, readEv, buildD, buildRows, rowsOf, elemsOf]
          simp [cntO]
        intro i Q hi hQ
        have : i = 0 ∨ i = 1 ∨ i = 2 ∨ i = 3 := by omega
        rcases this with rfl | rfl | rfl | rfl
        · have hx : ords3[0]? = some [60] := rfl
          cases hb : ordB 4 c with
          | true =>
            have hw : IntKind.i64.wrap (cntO c 0 + 1) = cntO c (0 + 1) := by
              have e : cntO c (0 + 1) = cntO c 0 + 1 := by simp [cntO, hb]
              rw [wrap_i64 (by unfold cntO; (repeat' split) <;> omega) (by unfold cntO; (repeat' split) <;> omega), e]
            simp (config := {maxSteps := 1000000}) only [a2_1, b2_1, hx, hb, hw, z1, z2, z3, askE_encS, sgs, q26, b4, resD, valD, tb28_e, Int.natCast_nonneg, Nat.le_refl, Int.le_refl, List.take_succ_cons, List.take_zero, decide_true, decide_false, Bool.and_false, Bool.false_and, zz, zzN, zzF, fltEv, isArithF, ↓reduceIte, Nat.reduceEqDiff, Nat.reduceBEq, Int.reduceLT, Int.reduceLE, Int.reduceToNat, Int.reduceEq, Int.reduceAdd, Int.reduceSub, Int.reduceMul, Int.reduceNeg, Nat.reduceMul, Nat.reduceSub, Nat.reduceLeDiff, Nat.reduceLT, Int.reduceGT, Int.reduceBEq, Int.reduceBNe, reduceCtorEq, Nat.reduceAdd, Ins.map, Fr.ev, argFr, argE, binEv, intEv, shEv, strEv, unEv, Fr.mark, evRes, tup, lenD, lookupD, loadD, partD, storeD, cellsD, cellOk, setAt, objNe, objSame, eqEv, readEv, buildD, buildRows, rowsOf, elemsOf]
            refine ⟨by decide, fun i3 a1 a2 a3 a4 => ?_⟩
            simp (config := {maxSteps := 1000000}) only [a2_1, b2_1, a1, a2, a3, a4, q29, tr_bool, hb, hw, z1, z2, z3, tb28_e, Int.natCast_nonneg, Nat.le_refl, Int.le_refl, List.take_succ_cons, List.take_zero, decide_true, decide_false, Bool.and_false, Bool.false_and, zz, zzN, zzF, fltEv, isArithF, ↓reduceIte, Nat.reduceEqDiff, Nat.reduceBEq, Int.reduceLT, Int.reduceLE, Int.reduceToNat, Int.reduceEq, Int.reduceAdd, Int.reduceSub, Int.reduceMul, Int.reduceNeg, Nat.reduceMul, Nat.reduceSub, Nat.reduceLeDiff, Nat.reduceLT, Int.reduceGT, Int.reduceBEq, Int.reduceBNe, reduceCtorEq, Nat.reduceAdd, Ins.map, Fr.ev, argFr, argE, binEv, intEv, shEv, strEv, unEv, Fr.mark, evRes, tup, lenD, lookupD, loadD, partD, storeD, cellsD, cellOk, setAt, objNe, objSame, eqEv, readEv, buildD, buildRows, rowsOf, elemsOf]
            refine hQ (0 + 1) _ _ (by omega) ?_ ?_ (by omega)
            · simp only [Int.natCast_nonneg, Nat.le_refl, Int.le_refl, List.take_succ_cons, List.take_zero, decide_true, decide_false, Bool.and_false, Bool.false_and, zz, zzN, zzF, fltEv, isArithF, ↓reduceIte, Nat.reduceEqDiff, Nat.reduceBEq, Int.reduceLT, Int.reduceLE, Int.reduceToNat, Int.reduceEq, Int.reduceAdd, Int.reduceSub, Int.reduceMul, Int.reduceNeg, Nat.reduceMul, Nat.reduceSub, Nat.reduceLeDiff, Nat.reduceLT, Int.reduceGT, Int.reduceBEq, Int.reduceBNe, reduceCtorEq, Nat.reduceAdd, Ins.map, Fr.ev, argFr, argE, binEv, intEv, shEv, strEv, unEv, Fr.mark, evRes, tup, lenD, lookupD, loadD, partD, storeD, cellsD, cellOk, setAt, objNe, objSame, eqEv, readEv, buildD, buildRows, rowsOf, elemsOf]
            · exact AHeap.sub_X (by repeat' first | exact AHeap.subX_refl | exact AHeap.subX_emp | refine AHeap.subX_l (by simp [a2_1, b2_1, a1, a2, a3, a4]) ?_ | refine AHeap.subX_r (by simp [a2_1, b2_1, a1, a2, a3, a4]) ?_)
          | false =>
            have hw : cntO c (0 + 1) = cntO c 0 := by simp [cntO, hb]
            simp (config := {maxSteps := 1000000}) only [a2_1, b2_1, hx, hb, z1, z2, z3, askE_encS, sgs, q26, b4, resD, valD, tb28_e, Int.natCast_nonneg, Nat.le_refl, Int.le_refl, List.take_succ_cons, List.take_zero, decide_true, decide_false, Bool.and_false, Bool.false_and, zz, zzN, zzF, fltEv, isArithF, ↓reduceIte, Nat.reduceEqDiff, Nat.reduceBEq, Int.reduceLT, Int.reduceLE, Int.reduceToNat, Int.reduceEq, Int.reduceAdd, Int.reduceSub, Int.reduceMul, Int.reduceNeg, Nat.reduceMul, Nat.reduceSub, Nat.reduceLeDiff, Nat.reduceLT, Int.reduceGT, Int.reduceBEq, Int.reduceBNe, reduceCtorEq, Nat.reduceAdd, Ins.map, Fr.ev, argFr, argE, binEv, intEv, shEv, strEv, unEv, Fr.mark, evRes, tup, lenD, lookupD, loadD, partD, storeD, cellsD, cellOk, setAt, objNe, objSame, eqEv, readEv, buildD, buildRows, rowsOf, elemsOf]
            refine ⟨by decide, fun i3 a1 a2 a3 a4 => ?_⟩
            simp (config := {maxSteps := 1000000}) only [a2_1, b2_1, a1, a2, a3, a4, q29, tr_bool, hb, z1, z2, z3, tb28_e, Int.natCast_nonneg, Nat.le_refl, Int.le_refl, List.take_succ_cons, List.take_zero, decide_true, decide_false, Bool.and_false, Bool.false_and, zz, zzN, zzF, fltEv, isArithF, ↓reduceIte, Nat.reduceEqDiff, Nat.reduceBEq, Int.reduceLT, Int.reduceLE, Int.reduceToNat, Int.reduceEq, Int.reduceAdd, Int.reduceSub, Int.reduceMul, Int.reduceNeg, Nat.reduceMul, Nat.reduceSub, Nat.reduceLeDiff, Nat.reduceLT, Int.reduceGT, Int.reduceBEq, Int.reduceBNe, reduceCtorEq, Nat.reduceAdd, Ins.map, Fr.ev, argFr, argE, binEv, intEv, shEv, strEv, unEv, Fr.mark, evRes, tup, lenD, lookupD, loadD, partD, storeD, cellsD, cellOk, setAt, objNe, objSame, eqEv, readEv, buildD, buildRows, rowsOf, elemsOf]
            refine hQ (0 + 1) _ _ (by omega) ?_ ?_ (by omega)
            · simp only [hw, Int.natCast_nonneg, Nat.le_refl, Int.le_refl, List.take_succ_cons, List.take_zero, decide_true, decide_false, Bool.and_false, Bool.false_and, zz, zzN, zzF, fltEv, isArithF, ↓reduceIte, Nat.reduceEqDiff, Nat.reduceBEq, Int.reduceLT, Int.reduceLE, Int.reduceToNat, Int.reduceEq, Int.reduceAdd, Int.reduceSub, Int.reduceMul, Int.reduceNeg, Nat.reduceMul, Nat.reduceSub, Nat.reduceLeDiff, Nat.reduceLT, Int.reduceGT, Int.reduceBEq, Int.reduceBNe, reduceCtorEq, Nat.reduceAdd, Ins.map, Fr.ev, argFr, argE, binEv, intEv, shEv, strEv, unEv, Fr.mark, evRes, tup, lenD, lookupD, loadD, partD, storeD, cellsD, cellOk, setAt, objNe, objSame, eqEv, readEv, buildD, buildRows, rowsOf, elemsOf]
            · exact AHeap.sub_X (by repeat' first | exact AHeap.subX_refl | exact AHeap.subX_emp | refine AHeap.subX_l (by simp [a2_1, b2_1, a1, a2, a3, a4]) ?_ | refine AHeap.subX_r (by simp [a2_1, b2_1, a1, a2, a3, a4]) ?_)
        · have hx : ords3[1]? = some [61, 61] := rfl
          cases hb : ordB 11 c with
          | true =>
            have hw : IntKind.i64.wrap (cntO c 1 + 1) = cntO c (1 + 1) := by
              have e : cntO c (1 + 1) = cntO c 1 + 1 := by simp [cntO, hb]
              rw [wrap_i64 (by unfold cntO; (repeat' split) <;> omega) (by unfold cntO; (repeat' split) <;> omega), e]
            simp (config := {maxSteps := 1000000}) only [a2_1, b2_1, hx, hb, hw, z1, z2, z3, askE_encS, sgs, q26, b11, resD, valD, tb28_e, Int.natCast_nonneg, Nat.le_refl, Int.le_refl, List.take_succ_cons, List.take_zero, decide_true, decide_false, Bool.and_false, Bool.false_and, zz, zzN, zzF, fltEv, isArithF, ↓reduceIte, Nat.reduceEqDiff, Nat.reduceBEq, Int.reduceLT, Int.reduceLE, Int.reduceToNat, Int.reduceEq, Int.reduceAdd, Int.reduceSub, Int.reduceMul, Int.reduceNeg, Nat.reduceMul, Nat.reduceSub, Nat.reduceLeDiff, Nat.reduceLT, Int.reduceGT, Int.reduceBEq, Int.reduceBNe, reduceCtorEq, Nat.reduceAdd, Ins.map, Fr.ev, argFr, argE, binEv, intEv, shEv, strEv, unEv, Fr.mark, evRes, tup, lenD, lookupD, loadD, partD, storeD, cellsD, cellOk, setAt, objNe, objSame, eqEv, readEv, buildD, buildRows, rowsOf, elemsOf]
            refine ⟨by decide, fun i3 a1 a2 a3 a4 => ?_⟩
            simp (config := {maxSteps := 1000000}) only [a2_1, b2_1, a1, a2, a3, a4, q29, tr_bool, hb, hw, z1, z2, z3, tb28_e, Int.natCast_nonneg, Nat.le_refl, Int.le_refl, List.take_succ_cons, List.take_zero, decide_true, decide_false, Bool.and_false, Bool.false_and, zz, zzN, zzF, fltEv, isArithF, ↓reduceIte, Nat.reduceEqDiff, Nat.reduceBEq, Int.reduceLT, Int.reduceLE, Int.reduceToNat, Int.reduceEq, Int.reduceAdd, Int.reduceSub, Int.reduceMul, Int.reduceNeg, Nat.reduceMul, Nat.reduceSub, Nat.reduceLeDiff, Nat.reduceLT, Int.reduceGT, Int.reduceBEq, Int.reduceBNe, reduceCtorEq, Nat.reduceAdd, Ins.map, Fr.ev, argFr, argE, binEv, intEv, shEv, strEv, unEv, Fr.mark, evRes, tup, lenD, lookupD, loadD, partD, storeD, cellsD, cellOk, setAt, objNe, objSame, eqEv, readEv, buildD, buildRows, rowsOf, elemsOf]
            refine hQ (1 + 1) _ _ (by omega) ?_ ?_ (by omega)
            · simp only [Int.natCast_nonneg, Nat.le_refl, Int.le_refl, List.take_succ_cons, List.take_zero, decide_true, decide_false, Bool.and_false, Bool.false_and, zz, zzN, zzF, fltEv, isArithF, ↓reduceIte, Nat.reduceEqDiff, Nat.reduceBEq, Int.reduceLT, Int.reduceLE, Int.reduceToNat, Int.reduceEq, Int.reduceAdd, Int.reduceSub, Int.reduceMul, Int.reduceNeg, Nat.reduceMul, Nat.reduceSub, Nat.reduceLeDiff, Nat.reduceLT, Int.reduceGT, Int.reduceBEq, Int.reduceBNe, reduceCtorEq, Nat.reduceAdd, Ins.map, Fr.ev, argFr, argE, binEv, intEv, shEv, strEv, unEv, Fr.mark, evRes, tup, lenD, lookupD, loadD, partD, storeD, cellsD, cellOk, setAt, objNe, objSame, eqEv, readEv, buildD, buildRows, rowsOf, elemsOf]
            · exact AHeap.sub_X (by repeat' first | exact AHeap.subX_refl | exact AHeap.subX_emp | refine AHeap.subX_l (by simp [a2_1, b2_1, a1, a2, a3, a4]) ?_ | refine AHeap.subX_r (by simp [a2_1, b2_1, a1, a2, a3, a4]) ?_)
          | false =>
            have hw : cntO c (1 + 1) = cntO c 1 := by simp [cntO, hb]
            simp (config := {maxSteps := 1000000}) only [a2_1, b2_1, hx, hb, z1, z2, z3, askE_encS, sgs, q26, b11, resD, valD, tb28_e, Int.natCast_nonneg, Nat.le_refl, Int.le_refl, List.take_succ_cons, List.take_zero, decide_true, decide_false, Bool.and_false, Bool.false_and, zz, zzN, zzF, fltEv, isArithF, ↓reduceIte, Nat.reduceEqDiff, Nat.reduceBEq, Int.reduceLT, Int.reduceLE, Int.reduceToNat, Int.reduceEq, Int.reduceAdd, Int.reduceSub, Int.reduceMul, Int.reduceNeg, Nat.reduceMul, Nat.reduceSub, Nat.reduceLeDiff, Nat.reduceLT, Int.reduceGT, Int.reduceBEq, Int.reduceBNe, reduceCtorEq, Nat.reduceAdd, Ins.map, Fr.ev, argFr, argE, binEv, intEv, shEv, strEv, unEv, Fr.mark, evRes, tup, lenD, lookupD, loadD, partD, storeD, cellsD, cellOk, setAt, objNe, objSame, eqEv, readEv, buildD, buildRows, rowsOf, elemsOf]
            refine ⟨by decide, fun i3 a1 a2 a3 a4 => ?_⟩
            simp (config := {maxSteps := 1000000}) only [a2_1, b2_1, a1, a2, a3, a4, q29, tr_bool, hb, z1, z2, z3, tb28_e, Int.natCast_nonneg, Nat.le_refl, Int.le_refl, List.take_succ_cons, List.take_zero, decide_true, decide_false, Bool.and_false, Bool.false_and, zz, zzN, zzF, fltEv, isArithF, ↓reduceIte, Nat.reduceEqDiff, Nat.reduceBEq, Int.reduceLT, Int.reduceLE, Int.reduceToNat, Int.reduceEq, Int.reduceAdd, Int.reduceSub, Int.reduceMul, Int.reduceNeg, Nat.reduceMul, Nat.reduceSub, Nat.reduceLeDiff, Nat.reduceLT, Int.reduceGT, Int.reduceBEq, Int.reduceBNe, reduceCtorEq, Nat.reduceAdd, Ins.map, Fr.ev, argFr, argE, binEv, intEv, shEv, strEv, unEv, Fr.mark, evRes, tup, lenD, lookupD, loadD, partD, storeD, cellsD, cellOk, setAt, objNe, objSame, eqEv, readEv, buildD, buildRows, rowsOf, elemsOf]
            refine hQ (1 + 1) _ _ (by omega) ?_ ?_ (by omega)
            · simp only [hw, Int.natCast_nonneg, Nat.le_refl, Int.le_refl, List.take_succ_cons, List.take_zero, decide_true, decide_false, Bool.and_false, Bool.false_and, zz, zzN, zzF, fltEv, isArithF, ↓reduceIte, Nat.reduceEqDiff, Nat.reduceBEq, Int.reduceLT, Int.reduceLE, Int.reduceToNat, Int.reduceEq, Int.reduceAdd, Int.reduceSub, Int.reduceMul, Int.reduceNeg, Nat.reduceMul, Nat.reduceSub, Nat.reduceLeDiff, Nat.reduceLT, Int.reduceGT, Int.reduceBEq, Int.reduceBNe, reduceCtorEq, Nat.reduceAdd, Ins.map, Fr.ev, argFr, argE, binEv, intEv, shEv, strEv, unEv, Fr.mark, evRes, tup, lenD, lookupD, loadD, partD, storeD, cellsD, cellOk, setAt, objNe, objSame, eqEv, readEv, buildD, buildRows, rowsOf, elemsOf]
            · exact AHeap.sub_X (by repeat' first | exact AHeap.subX_refl | exact AHeap.subX_emp | refine AHeap.subX_l (by simp [a2_1, b2_1, a1, a2, a3, a4]) ?_ | refine AHeap.subX_r (by simp [a2_1, b2_1, a1, a2, a3, a4]) ?_)
        · have hx : ords3[2]? = some [62] := rfl
          cases hb : ordB 6 c with
          | true =>
            have hw : IntKind.i64.wrap (cntO c 2 + 1) = cntO c (2 + 1) := by
              have e : cntO c (2 + 1) = cntO c 2 + 1 := by simp [cntO, hb]
              rw [wrap_i64 (by unfold cntO; (repeat' split) <;> omega) (by unfold cntO; (repeat' split) <;> omega), e]
            simp (config := {maxSteps := 1000000}) only [a2_1, b2_1, hx, hb, hw, z1, z2, z3, askE_encS, sgs, q26, b6, resD, valD, tb28_e, Int.natCast_nonneg, Nat.le_refl, Int.le_refl, List.take_succ_cons, List.take_zero, decide_true, decide_false, Bool.and_false, Bool.false_and, zz, zzN, zzF, fltEv, isArithF, ↓reduceIte, Nat.reduceEqDiff, Nat.reduceBEq, Int.reduceLT, Int.reduceLE, Int.reduceToNat, Int.reduceEq, Int.reduceAdd, Int.reduceSub, Int.reduceMul, Int.reduceNeg, Nat.reduceMul, Nat.reduceSub, Nat.reduceLeDiff, Nat.reduceLT, Int.reduceGT, Int.reduceBEq, Int.reduceBNe, reduceCtorEq, Nat.reduceAdd, Ins.map, Fr.ev, argFr, argE, binEv, intEv, shEv, strEv, unEv, Fr.mark, evRes, tup, lenD, lookupD, loadD, partD, storeD, cellsD, cellOk, setAt, objNe, objSame, eqEv, readEv, buildD, buildRows, rowsOf, elemsOf]
            refine ⟨by decide, fun i3 a1 a2 a3 a4 => ?_⟩
            simp (config := {maxSteps := 1000000}) only [a2_1, b2_1, a1, a2, a3, a4, q29, tr_bool, hb, hw, z1, z2, z3, tb28_e, Int.natCast_nonneg, Nat.le_refl, Int.le_refl, List.take_succ_cons, List.take_zero, decide_true, decide_false, Bool.and_false, Bool.false_and, zz, zzN, zzF, fltEv, isArithF, ↓reduceIte, Nat.reduceEqDiff, Nat.reduceBEq, Int.reduceLT, Int.reduceLE, Int.reduceToNat, Int.reduceEq, Int.reduceAdd, Int.reduceSub, Int.reduceMul, Int.reduceNeg, Nat.reduceMul, Nat.reduceSub, Nat.reduceLeDiff, Nat.reduceLT, Int.reduceGT, Int.reduceBEq, Int.reduceBNe, reduceCtorEq, Nat.reduceAdd, Ins.map, Fr.ev, argFr, argE, binEv, intEv, shEv, strEv, unEv, Fr.mark, evRes, tup, lenD, lookupD, loadD, partD, storeD, cellsD, cellOk, setAt, objNe, objSame, eqEv, readEv, buildD, buildRows, rowsOf, elemsOf]
            refine hQ (2 + 1) _ _ (by omega) ?_ ?_ (by omega)
            · simp only [Int.natCast_nonneg, Nat.le_refl, Int.le_refl, List.take_succ_cons, List.take_zero, decide_true, decide_false, Bool.and_false, Bool.false_and, zz, zzN, zzF, fltEv, isArithF, ↓reduceIte, Nat.reduceEqDiff, Nat.reduceBEq, Int.reduceLT, Int.reduceLE, Int.reduceToNat, Int.reduceEq, Int.reduceAdd, Int.reduceSub, Int.reduceMul, Int.reduceNeg, Nat.reduceMul, Nat.reduceSub, Nat.reduceLeDiff, Nat.reduceLT, Int.reduceGT, Int.reduceBEq, Int.reduceBNe, reduceCtorEq, Nat.reduceAdd, Ins.map, Fr.ev, argFr, argE, binEv, intEv, shEv, strEv, unEv, Fr.mark, evRes, tup, lenD, lookupD, loadD, partD, storeD, cellsD, cellOk, setAt, objNe, objSame, eqEv, readEv, buildD, buildRows, rowsOf, elemsOf]
            · exact AHeap.sub_X (by repeat' first | exact AHeap.subX_refl | exact AHeap.subX_emp | refine AHeap.subX_l (by simp [a2_1, b2_1, a1, a2, a3, a4]) ?_ | refine AHeap.subX_r (by simp [a2_1, b2_1, a1, a2, a3, a4]) ?_)
          | false =>
            have hw : cntO c (2 + 1) = cntO c 2 := by simp [cntO, hb]
            simp (config := {maxSteps := 1000000}) only [a2_1, b2_1, hx, hb, z1, z2, z3, askE_encS, sgs, q26, b6, resD, valD, tb28_e, Int.natCast_nonneg, Nat.le_refl, Int.le_refl, List.take_succ_cons, List.take_zero, decide_true, decide_false, Bool.and_false, Bool.false_and, zz, zzN, zzF, fltEv, isArithF, ↓reduceIte, Nat.reduceEqDiff, Nat.reduceBEq, Int.reduceLT, Int.reduceLE, Int.reduceToNat, Int.reduceEq, Int.reduceAdd, Int.reduceSub, Int.reduceMul, Int.reduceNeg, Nat.reduceMul, Nat.reduceSub, Nat.reduceLeDiff, Nat.reduceLT, Int.reduceGT, Int.reduceBEq, Int.reduceBNe, reduceCtorEq, Nat.reduceAdd, Ins.map, Fr.ev, argFr, argE, binEv, intEv, shEv, strEv, unEv, Fr.mark, evRes, tup, lenD, lookupD, loadD, partD, storeD, cellsD, cellOk, setAt, objNe, objSame, eqEv, readEv, buildD, buildRows, rowsOf, elemsOf]
            refine ⟨by decide, fun i3 a1 a2 a3 a4 => ?_⟩
            simp (config := {maxSteps := 1000000}) only [a2_1, b2_1, a1, a2, a3, a4, q29, tr_bool, hb, z1, z2, z3, tb28_e, Int.natCast_nonneg, Nat.le_refl, Int.le_refl, List.take_succ_cons, List.take_zero, decide_true, decide_false, Bool.and_false, Bool.false_and, zz, zzN, zzF, fltEv, isArithF, ↓reduceIte, Nat.reduceEqDiff, Nat.reduceBEq, Int.reduceLT, Int.reduceLE, Int.reduceToNat, Int.reduceEq, Int.reduceAdd, Int.reduceSub, Int.reduceMul, Int.reduceNeg, Nat.reduceMul, Nat.reduceSub, Nat.reduceLeDiff, Nat.reduceLT, Int.reduceGT, Int.reduceBEq, Int.reduceBNe, reduceCtorEq, Nat.reduceAdd, Ins.map, Fr.ev, argFr, argE, binEv, intEv, shEv, strEv, unEv, Fr.mark, evRes, tup, lenD, lookupD, loadD, partD, storeD, cellsD, cellOk, setAt, objNe, objSame, eqEv, readEv, buildD, buildRows, rowsOf, elemsOf]
            refine hQ (2 + 1) _ _ (by omega) ?_ ?_ (by omega)
            · simp only [hw, Int.natCast_nonneg, Nat.le_refl, Int.le_refl, List.take_succ_cons, List.take_zero, decide_true, decide_false, Bool.and_false, Bool.false_and, zz, zzN, zzF, fltEv, isArithF, ↓reduceIte, Nat.reduceEqDiff, Nat.reduceBEq, Int.reduceLT, Int.reduceLE, Int.reduceToNat, Int.reduceEq, Int.reduceAdd, Int.reduceSub, Int.reduceMul, Int.reduceNeg, Nat.reduceMul, Nat.reduceSub, Nat.reduceLeDiff, Nat.reduceLT, Int.reduceGT, Int.reduceBEq, Int.reduceBNe, reduceCtorEq, Nat.reduceAdd, Ins.map, Fr.ev, argFr, argE, binEv, intEv, shEv, strEv, unEv, Fr.mark, evRes, tup, lenD, lookupD, loadD, partD, storeD, cellsD, cellOk, setAt, objNe, objSame, eqEv, readEv, buildD, buildRows, rowsOf, elemsOf]
            · exact AHeap.sub_X (by repeat' first | exact AHeap.subX_refl | exact AHeap.subX_emp | refine AHeap.subX_l (by simp [a2_1, b2_1, a1, a2, a3, a4]) ?_ | refine AHeap.subX_r (by simp [a2_1, b2_1, a1, a2, a3, a4]) ?_)
        · have hnn := cmp_none n n'
          rw [← hc] at hnn
          cases x1 : (FloatKind.f64.format.order (bitsOf n) (bitsOf n) != some .eq) with
          | true =>
            have hcn : c = none := by rw [hnn]; exact .inl x1
            subst hcn
            have v3 : cntO none 3 = 0 := by decide
            have o5 : ordB 5 none = false := by decide
            have o7 : ordB 7 (Option.map Ordering.swap none) = false := by decide
            have o11 : ordB 11 none = false := by decide
            have o12 : ordB 12 none = true := by decide
            simp (config := {maxSteps := 1000000}) only [a2_1, b2_1, v3, o5, o7, o11, o12, sgs, q26, q29, q30, q28, b5, bs, b11, b12, tr_bool, resD, valD, eqEv, x1, tb28_e, Int.natCast_nonneg, Nat.le_refl, Int.le_refl, List.take_succ_cons, List.take_zero, decide_true, decide_false, Bool.and_false, Bool.false_and, zz, zzN, zzF, fltEv, isArithF, ↓reduceIte, Nat.reduceEqDiff, Nat.reduceBEq, Int.reduceLT, Int.reduceLE, Int.reduceToNat, Int.reduceEq, Int.reduceAdd, Int.reduceSub, Int.reduceMul, Int.reduceNeg, Nat.reduceMul, Nat.reduceSub, Nat.reduceLeDiff, Nat.reduceLT, Int.reduceGT, Int.reduceBEq, Int.reduceBNe, reduceCtorEq, Nat.reduceAdd, Ins.map, Fr.ev, argFr, argE, binEv, intEv, shEv, strEv, unEv, Fr.mark, evRes, tup, lenD, lookupD, loadD, partD, storeD, cellsD, cellOk, setAt, objNe, objSame, eqEv, readEv, buildD, buildRows, rowsOf, elemsOf]
            intro i3 a3_2 b3_2 a3_1 b3_1
            simp (config := {maxSteps := 1000000}) only [a2_1, b2_1, a3_2, b3_2, a3_1, b3_1, v3, o5, o7, o11, o12, sgs, q26, q29, q30, q28, b5, bs, b11, b12, tr_bool, resD, valD, eqEv, x1, tb28_e, Int.natCast_nonneg, Nat.le_refl, Int.le_refl, List.take_succ_cons, List.take_zero, decide_true, decide_false, Bool.and_false, Bool.false_and, zz, zzN, zzF, fltEv, isArithF, ↓reduceIte, Nat.reduceEqDiff, Nat.reduceBEq, Int.reduceLT, Int.reduceLE, Int.reduceToNat, Int.reduceEq, Int.reduceAdd, Int.reduceSub, Int.reduceMul, Int.reduceNeg, Nat.reduceMul, Nat.reduceSub, Nat.reduceLeDiff, Nat.reduceLT, Int.reduceGT, Int.reduceBEq, Int.reduceBNe, reduceCtorEq, Nat.reduceAdd, Ins.map, Fr.ev, argFr, argE, binEv, intEv, shEv, strEv, unEv, Fr.mark, evRes, tup, lenD, lookupD, loadD, partD, storeD, cellsD, cellOk, setAt, objNe, objSame, eqEv, readEv, buildD, buildRows, rowsOf, elemsOf]
            intro i4 a4_3 b4_3 a4_2 b4_2 a4_1 b4_1
            simp (config := {maxSteps := 1000000}) only [a2_1, b2_1, a3_2, b3_2, a3_1, b3_1, a4_3, b4_3, a4_2, b4_2, a4_1, b4_1, v3, o5, o7, o11, o12, sgs, q26, q29, q30, q28, b5, bs, b11, b12, tr_bool, resD, valD, eqEv, x1, tb28_e, Int.natCast_nonneg, Nat.le_refl, Int.le_refl, List.take_succ_cons, List.take_zero, decide_true, decide_false, Bool.and_false, Bool.false_and, zz, zzN, zzF, fltEv, isArithF, ↓reduceIte, Nat.reduceEqDiff, Nat.reduceBEq, Int.reduceLT, Int.reduceLE, Int.reduceToNat, Int.reduceEq, Int.reduceAdd, Int.reduceSub, Int.reduceMul, Int.reduceNeg, Nat.reduceMul, Nat.reduceSub, Nat.reduceLeDiff, Nat.reduceLT, Int.reduceGT, Int.reduceBEq, Int.reduceBNe, reduceCtorEq, Nat.reduceAdd, Ins.map, Fr.ev, argFr, argE, binEv, intEv, shEv, strEv, unEv, Fr.mark, evRes, tup, lenD, lookupD, loadD, partD, storeD, cellsD, cellOk, setAt, objNe, objSame, eqEv, readEv, buildD, buildRows, rowsOf, elemsOf]
            intro i5 a5_4 b5_4 a5_3 b5_3 a5_2 b5_2 a5_1 b5_1
            simp (config := {maxSteps := 1000000}) only [a2_1, b2_1, a3_2, b3_2, a3_1, b3_1, a4_3, b4_3, a4_2, b4_2, a4_1, b4_1, a5_4, b5_4, a5_3, b5_3, a5_2, b5_2, a5_1, b5_1, v3, o5, o7, o11, o12, sgs, q26, q29, q30, q28, b5, bs, b11, b12, tr_bool, resD, valD, eqEv, x1, tb28_e, Int.natCast_nonneg, Nat.le_refl, Int.le_refl, List.take_succ_cons, List.take_zero, decide_true, decide_false, Bool.and_false, Bool.false_and, zz, zzN, zzF, fltEv, isArithF, ↓reduceIte, Nat.reduceEqDiff, Nat.reduceBEq, Int.reduceLT, Int.reduceLE, Int.reduceToNat, Int.reduceEq, Int.reduceAdd, Int.reduceSub, Int.reduceMul, Int.reduceNeg, Nat.reduceMul, Nat.reduceSub, Nat.reduceLeDiff, Nat.reduceLT, Int.reduceGT, Int.reduceBEq, Int.reduceBNe, reduceCtorEq, Nat.reduceAdd, Ins.map, Fr.ev, argFr, argE, binEv, intEv, shEv, strEv, unEv, Fr.mark, evRes, tup, lenD, lookupD, loadD, partD, storeD, cellsD, cellOk, setAt, objNe, objSame, eqEv, readEv, buildD, buildRows, rowsOf, elemsOf]
            intro i6 a6_5 b6_5 a6_4 b6_4 a6_3 b6_3 a6_2 b6_2 a6_1 b6_1
            simp (config := {maxSteps := 1000000}) only [a2_1, b2_1, a3_2, b3_2, a3_1, b3_1, a4_3, b4_3, a4_2, b4_2, a4_1, b4_1, a5_4, b5_4, a5_3, b5_3, a5_2, b5_2, a5_1, b5_1, a6_5, b6_5, a6_4, b6_4, a6_3, b6_3, a6_2, b6_2, a6_1, b6_1, v3, o5, o7, o11, o12, sgs, q26, q29, q30, q28, b5, bs, b11, b12, tr_bool, resD, valD, eqEv, x1, tb28_e, Int.natCast_nonneg, Nat.le_refl, Int.le_refl, List.take_succ_cons, List.take_zero, decide_true, decide_false, Bool.and_false, Bool.false_and, zz, zzN, zzF, fltEv, isArithF, ↓reduceIte, Nat.reduceEqDiff, Nat.reduceBEq, Int.reduceLT, Int.reduceLE, Int.reduceToNat, Int.reduceEq, Int.reduceAdd, Int.reduceSub, Int.reduceMul, Int.reduceNeg, Nat.reduceMul, Nat.reduceSub, Nat.reduceLeDiff, Nat.reduceLT, Int.reduceGT, Int.reduceBEq, Int.reduceBNe, reduceCtorEq, Nat.reduceAdd, Ins.map, Fr.ev, argFr, argE, binEv, intEv, shEv, strEv, unEv, Fr.mark, evRes, tup, lenD, lookupD, loadD, partD, storeD, cellsD, cellOk, setAt, objNe, objSame, eqEv, readEv, buildD, buildRows, rowsOf, elemsOf]
            decide
          | false =>
            cases x2 : (FloatKind.f64.format.order (bitsOf n') (bitsOf n') != some .eq) with
            | true =>
              have hcn : c = none := by rw [hnn]; exact .inr x2
              subst hcn
              have v3 : cntO none 3 = 0 := by decide
              have o5 : ordB 5 none = false := by decide
              have o7 : ordB 7 (Option.map Ordering.swap none) = false := by decide
              have o11 : ordB 11 none = false := by decide
              have o12 : ordB 12 none = true := by decide
              simp (config := {maxSteps := 1000000}) only [a2_1, b2_1, v3, o5, o7, o11, o12, sgs, q26, q29, q30, q28, b5, bs, b11, b12, tr_bool, resD, valD, eqEv, x1, x2, tb28_e, Int.natCast_nonneg, Nat.le_refl, Int.le_refl, List.take_succ_cons, List.take_zero, decide_true, decide_false, Bool.and_false, Bool.false_and, zz, zzN, zzF, fltEv, isArithF, ↓reduceIte, Nat.reduceEqDiff, Nat.reduceBEq, Int.reduceLT, Int.reduceLE, Int.reduceToNat, Int.reduceEq, Int.reduceAdd, Int.reduceSub, Int.reduceMul, Int.reduceNeg, Nat.reduceMul, Nat.reduceSub, Nat.reduceLeDiff, Nat.reduceLT, Int.reduceGT, Int.reduceBEq, Int.reduceBNe, reduceCtorEq, Nat.reduceAdd, Ins.map, Fr.ev, argFr, argE, binEv, intEv, shEv, strEv, unEv, Fr.mark, evRes, tup, lenD, lookupD, loadD, partD, storeD, cellsD, cellOk, setAt, objNe, objSame, eqEv, readEv, buildD, buildRows, rowsOf, elemsOf]
              intro i3 a3_2 b3_2 a3_1 b3_1
              simp (config := {maxSteps := 1000000}) only [a2_1, b2_1, a3_2, b3_2, a3_1, b3_1, v3, o5, o7, o11, o12, sgs, q26, q29, q30, q28, b5, bs, b11, b12, tr_bool, resD, valD, eqEv, x1, x2, tb28_e, Int.natCast_nonneg, Nat.le_refl, Int.le_refl, List.take_succ_cons, List.take_zero, decide_true, decide_false, Bool.and_false, Bool.false_and, zz, zzN, zzF, fltEv, isArithF, ↓reduceIte, Nat.reduceEqDiff, Nat.reduceBEq, Int.reduceLT, Int.reduceLE, Int.reduceToNat, Int.reduceEq, Int.reduceAdd, Int.reduceSub, Int.reduceMul, Int.reduceNeg, Nat.reduceMul, Nat.reduceSub, Nat.reduceLeDiff, Nat.reduceLT, Int.reduceGT, Int.reduceBEq, Int.reduceBNe, reduceCtorEq, Nat.reduceAdd, Ins.map, Fr.ev, argFr, argE, binEv, intEv, shEv, strEv, unEv, Fr.mark, evRes, tup, lenD, lookupD, loadD, partD, storeD, cellsD, cellOk, setAt, objNe, objSame, eqEv, readEv, buildD, buildRows, rowsOf, elemsOf]
              intro i4 a4_3 b4_3 a4_2 b4_2 a4_1 b4_1
              simp (config := {maxSteps := 1000000}) only [a2_1, b2_1, a3_2, b3_2, a3_1, b3_1, a4_3, b4_3, a4_2, b4_2, a4_1, b4_1, v3, o5, o7, o11, o12, sgs, q26, q29, q30, q28, b5, bs, b11, b12, tr_bool, resD, valD, eqEv, x1, x2, tb28_e, Int.natCast_nonneg, Nat.le_refl, Int.le_refl, List.take_succ_cons, List.take_zero, decide_true, decide_false, Bool.and_false, Bool.false_and, zz, zzN, zzF, fltEv, isArithF, ↓reduceIte, Nat.reduceEqDiff, Nat.reduceBEq, Int.reduceLT, Int.reduceLE, Int.reduceToNat, Int.reduceEq, Int.reduceAdd, Int.reduceSub, Int.reduceMul, Int.reduceNeg, Nat.reduceMul, Nat.reduceSub, Nat.reduceLeDiff, Nat.reduceLT, Int.reduceGT, Int.reduceBEq, Int.reduceBNe, reduceCtorEq, Nat.reduceAdd, Ins.map, Fr.ev, argFr, argE, binEv, intEv, shEv, strEv, unEv, Fr.mark, evRes, tup, lenD, lookupD, loadD, partD, storeD, cellsD, cellOk, setAt, objNe, objSame, eqEv, readEv, buildD, buildRows, rowsOf, elemsOf]
              intro i5 a5_4 b5_4 a5_3 b5_3 a5_2 b5_2 a5_1 b5_1
              simp (config := {maxSteps := 1000000}) only [a2_1, b2_1, a3_2, b3_2, a3_1, b3_1, a4_3, b4_3, a4_2, b4_2, a4_1, b4_1, a5_4, b5_4, a5_3, b5_3, a5_2, b5_2, a5_1, b5_1, v3, o5, o7, o11, o12, sgs, q26, q29, q30, q28, b5, bs, b11, b12, tr_bool, resD, valD, eqEv, x1, x2, tb28_e, Int.natCast_nonneg, Nat.le_refl, Int.le_refl, List.take_succ_cons, List.take_zero, decide_true, decide_false, Bool.and_false, Bool.false_and, zz, zzN, zzF, fltEv, isArithF, ↓reduceIte, Nat.reduceEqDiff, Nat.reduceBEq, Int.reduceLT, Int.reduceLE, Int.reduceToNat, Int.reduceEq, Int.reduceAdd, Int.reduceSub, Int.reduceMul, Int.reduceNeg, Nat.reduceMul, Nat.reduceSub, Nat.reduceLeDiff, Nat.reduceLT, Int.reduceGT, Int.reduceBEq, Int.reduceBNe, reduceCtorEq, Nat.reduceAdd, Ins.map, Fr.ev, argFr, argE, binEv, intEv, shEv, strEv, unEv, Fr.mark, evRes, tup, lenD, lookupD, loadD, partD, storeD, cellsD, cellOk, setAt, objNe, objSame, eqEv, readEv, buildD, buildRows, rowsOf, elemsOf]
              intro i6 a6_5 b6_5 a6_4 b6_4 a6_3 b6_3 a6_2 b6_2 a6_1 b6_1
              simp (config := {maxSteps := 1000000}) only [a2_1, b2_1, a3_2, b3_2, a3_1, b3_1, a4_3, b4_3, a4_2, b4_2, a4_1, b4_1, a5_4, b5_4, a5_3, b5_3, a5_2, b5_2, a5_1, b5_1, a6_5, b6_5, a6_4, b6_4, a6_3, b6_3, a6_2, b6_2, a6_1, b6_1, v3, o5, o7, o11, o12, sgs, q26, q29, q30, q28, b5, bs, b11, b12, tr_bool, resD, valD, eqEv, x1, x2, tb28_e, Int.natCast_nonneg, Nat.le_refl, Int.le_refl, List.take_succ_cons, List.take_zero, decide_true, decide_false, Bool.and_false, Bool.false_and, zz, zzN, zzF, fltEv, isArithF, ↓reduceIte, Nat.reduceEqDiff, Nat.reduceBEq, Int.reduceLT, Int.reduceLE, Int.reduceToNat, Int.reduceEq, Int.reduceAdd, Int.reduceSub, Int.reduceMul, Int.reduceNeg, Nat.reduceMul, Nat.reduceSub, Nat.reduceLeDiff, Nat.reduceLT, Int.reduceGT, Int.reduceBEq, Int.reduceBNe, reduceCtorEq, Nat.reduceAdd, Ins.map, Fr.ev, argFr, argE, binEv, intEv, shEv, strEv, unEv, Fr.mark, evRes, tup, lenD, lookupD, loadD, partD, storeD, cellsD, cellOk, setAt, objNe, objSame, eqEv, readEv, buildD, buildRows, rowsOf, elemsOf]
              decide
            | false =>
              have hcn : c ≠ none := fun e => by rw [hnn, x1, x2] at e; simp at e
              cases c with
              | none => exact absurd rfl hcn
              | some o =>
                cases o with
                | lt =>
                  have v3 : cntO (some .lt) 3 = 1 := by decide
                  have o5 : ordB 5 (some .lt) = true := by decide
                  have o7 : ordB 7 (Option.map Ordering.swap (some .lt)) = true := by decide
                  have o11 : ordB 11 (some .lt) = false := by decide
                  have o12 : ordB 12 (some .lt) = true := by decide
                  simp (config := {maxSteps := 1000000}) only [a2_1, b2_1, v3, o5, o7, o11, o12, sgs, q26, q29, q30, q28, b5, bs, b11, b12, tr_bool, resD, valD, eqEv, x1, x2, tb28_e, Int.natCast_nonneg, Nat.le_refl, Int.le_refl, List.take_succ_cons, List.take_zero, decide_true, decide_false, Bool.and_false, Bool.false_and, zz, zzN, zzF, fltEv, isArithF, ↓reduceIte, Nat.reduceEqDiff, Nat.reduceBEq, Int.reduceLT, Int.reduceLE, Int.reduceToNat, Int.reduceEq, Int.reduceAdd, Int.reduceSub, Int.reduceMul, Int.reduceNeg, Nat.reduceMul, Nat.reduceSub, Nat.reduceLeDiff, Nat.reduceLT, Int.reduceGT, Int.reduceBEq, Int.reduceBNe, reduceCtorEq, Nat.reduceAdd, Ins.map, Fr.ev, argFr, argE, binEv, intEv, shEv, strEv, unEv, Fr.mark, evRes, tup, lenD, lookupD, loadD, partD, storeD, cellsD, cellOk, setAt, objNe, objSame, eqEv, readEv, buildD, buildRows, rowsOf, elemsOf]
                  intro i3 a3_2 b3_2 a3_1 b3_1
                  simp (config := {maxSteps := 1000000}) only [a2_1, b2_1, a3_2, b3_2, a3_1, b3_1, v3, o5, o7, o11, o12, sgs, q26, q29, q30, q28, b5, bs, b11, b12, tr_bool, resD, valD, eqEv, x1, x2, tb28_e, Int.natCast_nonneg, Nat.le_refl, Int.le_refl, List.take_succ_cons, List.take_zero, decide_true, decide_false, Bool.and_false, Bool.false_and, zz, zzN, zzF, fltEv, isArithF, ↓reduceIte, Nat.reduceEqDiff, Nat.reduceBEq, Int.reduceLT, Int.reduceLE, Int.reduceToNat, Int.reduceEq, Int.reduceAdd, Int.reduceSub, Int.reduceMul, Int.reduceNeg, Nat.reduceMul, Nat.reduceSub, Nat.reduceLeDiff, Nat.reduceLT, Int.reduceGT, Int.reduceBEq, Int.reduceBNe, reduceCtorEq, Nat.reduceAdd, Ins.map, Fr.ev, argFr, argE, binEv, intEv, shEv, strEv, unEv, Fr.mark, evRes, tup, lenD, lookupD, loadD, partD, storeD, cellsD, cellOk, setAt, objNe, objSame, eqEv, readEv, buildD, buildRows, rowsOf, elemsOf]
                  intro i4 a4_3 b4_3 a4_2 b4_2 a4_1 b4_1
                  simp (config := {maxSteps := 1000000}) only [a2_1, b2_1, a3_2, b3_2, a3_1, b3_1, a4_3, b4_3, a4_2, b4_2, a4_1, b4_1, v3, o5, o7, o11, o12, sgs, q26, q29, q30, q28, b5, bs, b11, b12, tr_bool, resD, valD, eqEv, x1, x2, tb28_e, Int.natCast_nonneg, Nat.le_refl, Int.le_refl, List.take_succ_cons, List.take_zero, decide_true, decide_false, Bool.and_false, Bool.false_and, zz, zzN, zzF, fltEv, isArithF, ↓reduceIte, Nat.reduceEqDiff, Nat.reduceBEq, Int.reduceLT, Int.reduceLE, Int.reduceToNat, Int.reduceEq, Int.reduceAdd, Int.reduceSub, Int.reduceMul, Int.reduceNeg, Nat.reduceMul, Nat.reduceSub, Nat.reduceLeDiff, Nat.reduceLT, Int.reduceGT, Int.reduceBEq, Int.reduceBNe, reduceCtorEq, Nat.reduceAdd, Ins.map, Fr.ev, argFr, argE, binEv, intEv, shEv, strEv, unEv, Fr.mark, evRes, tup, lenD, lookupD, loadD, partD, storeD, cellsD, cellOk, setAt, objNe, objSame, eqEv, readEv, buildD, buildRows, rowsOf, elemsOf]
                  intro i5 a5_4 b5_4 a5_3 b5_3 a5_2 b5_2 a5_1 b5_1
                  simp (config := {maxSteps := 1000000}) only [a2_1, b2_1, a3_2, b3_2, a3_1, b3_1, a4_3, b4_3, a4_2, b4_2, a4_1, b4_1, a5_4, b5_4, a5_3, b5_3, a5_2, b5_2, a5_1, b5_1, v3, o5, o7, o11, o12, sgs, q26, q29, q30, q28, b5, bs, b11, b12, tr_bool, resD, valD, eqEv, x1, x2, tb28_e, Int.natCast_nonneg, Nat.le_refl, Int.le_refl, List.take_succ_cons, List.take_zero, decide_true, decide_false, Bool.and_false, Bool.false_and, zz, zzN, zzF, fltEv, isArithF, ↓reduceIte, Nat.reduceEqDiff, Nat.reduceBEq, Int.reduceLT, Int.reduceLE, Int.reduceToNat, Int.reduceEq, Int.reduceAdd, Int.reduceSub, Int.reduceMul, Int.reduceNeg, Nat.reduceMul, Nat.reduceSub, Nat.reduceLeDiff, Nat.reduceLT, Int.reduceGT, Int.reduceBEq, Int.reduceBNe, reduceCtorEq, Nat.reduceAdd, Ins.map, Fr.ev, argFr, argE, binEv, intEv, shEv, strEv, unEv, Fr.mark, evRes, tup, lenD, lookupD, loadD, partD, storeD, cellsD, cellOk, setAt, objNe, objSame, eqEv, readEv, buildD, buildRows, rowsOf, elemsOf]
                  intro i6 a6_5 b6_5 a6_4 b6_4 a6_3 b6_3 a6_2 b6_2 a6_1 b6_1
                  simp (config := {maxSteps := 1000000}) only [a2_1, b2_1, a3_2, b3_2, a3_1, b3_1, a4_3, b4_3, a4_2, b4_2, a4_1, b4_1, a5_4, b5_4, a5_3, b5_3, a5_2, b5_2, a5_1, b5_1, a6_5, b6_5, a6_4, b6_4, a6_3, b6_3, a6_2, b6_2, a6_1, b6_1, v3, o5, o7, o11, o12, sgs, q26, q29, q30, q28, b5, bs, b11, b12, tr_bool, resD, valD, eqEv, x1, x2, tb28_e, Int.natCast_nonneg, Nat.le_refl, Int.le_refl, List.take_succ_cons, List.take_zero, decide_true, decide_false, Bool.and_false, Bool.false_and, zz, zzN, zzF, fltEv, isArithF, ↓reduceIte, Nat.reduceEqDiff, Nat.reduceBEq, Int.reduceLT, Int.reduceLE, Int.reduceToNat, Int.reduceEq, Int.reduceAdd, Int.reduceSub, Int.reduceMul, Int.reduceNeg, Nat.reduceMul, Nat.reduceSub, Nat.reduceLeDiff, Nat.reduceLT, Int.reduceGT, Int.reduceBEq, Int.reduceBNe, reduceCtorEq, Nat.reduceAdd, Ins.map, Fr.ev, argFr, argE, binEv, intEv, shEv, strEv, unEv, Fr.mark, evRes, tup, lenD, lookupD, loadD, partD, storeD, cellsD, cellOk, setAt, objNe, objSame, eqEv, readEv, buildD, buildRows, rowsOf, elemsOf]
                  decide
                | eq =>
                  have v3 : cntO (some .eq) 3 = 1 := by decide
                  have o5 : ordB 5 (some .eq) = true := by decide
                  have o7 : ordB 7 (Option.map Ordering.swap (some .eq)) = true := by decide
                  have o11 : ordB 11 (some .eq) = true := by decide
                  have o12 : ordB 12 (some .eq) = false := by decide
                  simp (config := {maxSteps := 1000000}) only [a2_1, b2_1, v3, o5, o7, o11, o12, sgs, q26, q29, q30, q28, b5, bs, b11, b12, tr_bool, resD, valD, eqEv, x1, x2, tb28_e, Int.natCast_nonneg, Nat.le_refl, Int.le_refl, List.take_succ_cons, List.take_zero, decide_true, decide_false, Bool.and_false, Bool.false_and, zz, zzN, zzF, fltEv, isArithF, ↓reduceIte, Nat.reduceEqDiff, Nat.reduceBEq, Int.reduceLT, Int.reduceLE, Int.reduceToNat, Int.reduceEq, Int.reduceAdd, Int.reduceSub, Int.reduceMul, Int.reduceNeg, Nat.reduceMul, Nat.reduceSub, Nat.reduceLeDiff, Nat.reduceLT, Int.reduceGT, Int.reduceBEq, Int.reduceBNe, reduceCtorEq, Nat.reduceAdd, Ins.map, Fr.ev, argFr, argE, binEv, intEv, shEv, strEv, unEv, Fr.mark, evRes, tup, lenD, lookupD, loadD, partD, storeD, cellsD, cellOk, setAt, objNe, objSame, eqEv, readEv, buildD, buildRows, rowsOf, elemsOf]
                  intro i3 a3_2 b3_2 a3_1 b3_1
                  simp (config := {maxSteps := 1000000}) only [a2_1, b2_1, a3_2, b3_2, a3_1, b3_1, v3, o5, o7, o11, o12, sgs, q26, q29, q30, q28, b5, bs, b11, b12, tr_bool, resD, valD, eqEv, x1, x2, tb28_e, Int.natCast_nonneg, Nat.le_refl, Int.le_refl, List.take_succ_cons, List.take_zero, decide_true, decide_false, Bool.and_false, Bool.false_and, zz, zzN, zzF, fltEv, isArithF, ↓reduceIte, Nat.reduceEqDiff, Nat.reduceBEq, Int.reduceLT, Int.reduceLE, Int.reduceToNat, Int.reduceEq, Int.reduceAdd, Int.reduceSub, Int.reduceMul, Int.reduceNeg, Nat.reduceMul, Nat.reduceSub, Nat.reduceLeDiff, Nat.reduceLT, Int.reduceGT, Int.reduceBEq, Int.reduceBNe, reduceCtorEq, Nat.reduceAdd, Ins.map, Fr.ev, argFr, argE, binEv, intEv, shEv, strEv, unEv, Fr.mark, evRes, tup, lenD, lookupD, loadD, partD, storeD, cellsD, cellOk, setAt, objNe, objSame, eqEv, readEv, buildD, buildRows, rowsOf, elemsOf]
                  intro i4 a4_3 b4_3 a4_2 b4_2 a4_1 b4_1
                  simp (config := {maxSteps := 1000000}) only [a2_1, b2_1, a3_2, b3_2, a3_1, b3_1, a4_3, b4_3, a4_2, b4_2, a4_1, b4_1, v3, o5, o7, o11, o12, sgs, q26, q29, q30, q28, b5, bs, b11, b12, tr_bool, resD, valD, eqEv, x1, x2, tb28_e, Int.natCast_nonneg, Nat.le_refl, Int.le_refl, List.take_succ_cons, List.take_zero, decide_true, decide_false, Bool.and_false, Bool.false_and, zz, zzN, zzF, fltEv, isArithF, ↓reduceIte, Nat.reduceEqDiff, Nat.reduceBEq, Int.reduceLT, Int.reduceLE, Int.reduceToNat, Int.reduceEq, Int.reduceAdd, Int.reduceSub, Int.reduceMul, Int.reduceNeg, Nat.reduceMul, Nat.reduceSub, Nat.reduceLeDiff, Nat.reduceLT, Int.reduceGT, Int.reduceBEq, Int.reduceBNe, reduceCtorEq, Nat.reduceAdd, Ins.map, Fr.ev, argFr, argE, binEv, intEv, shEv, strEv, unEv, Fr.mark, evRes, tup, lenD, lookupD, loadD, partD, storeD, cellsD, cellOk, setAt, objNe, objSame, eqEv, readEv, buildD, buildRows, rowsOf, elemsOf]
                  intro i5 a5_4 b5_4 a5_3 b5_3 a5_2 b5_2 a5_1 b5_1
                  simp (config := {maxSteps := 1000000}) only [a2_1, b2_1, a3_2, b3_2, a3_1, b3_1, a4_3, b4_3, a4_2, b4_2, a4_1, b4_1, a5_4, b5_4, a5_3, b5_3, a5_2, b5_2, a5_1, b5_1, v3, o5, o7, o11, o12, sgs, q26, q29, q30, q28, b5, bs, b11, b12, tr_bool, resD, valD, eqEv, x1, x2, tb28_e, Int.natCast_nonneg, Nat.le_refl, Int.le_refl, List.take_succ_cons, List.take_zero, decide_true, decide_false, Bool.and_false, Bool.false_and, zz, zzN, zzF, fltEv, isArithF, ↓reduceIte, Nat.reduceEqDiff, Nat.reduceBEq, Int.reduceLT, Int.reduceLE, Int.reduceToNat, Int.reduceEq, Int.reduceAdd, Int.reduceSub, Int.reduceMul, Int.reduceNeg, Nat.reduceMul, Nat.reduceSub, Nat.reduceLeDiff, Nat.reduceLT, Int.reduceGT, Int.reduceBEq, Int.reduceBNe, reduceCtorEq, Nat.reduceAdd, Ins.map, Fr.ev, argFr, argE, binEv, intEv, shEv, strEv, unEv, Fr.mark, evRes, tup, lenD, lookupD, loadD, partD, storeD, cellsD, cellOk, setAt, objNe, objSame, eqEv, readEv, buildD, buildRows, rowsOf, elemsOf]
                  intro i6 a6_5 b6_5 a6_4 b6_4 a6_3 b6_3 a6_2 b6_2 a6_1 b6_1
                  simp (config := {maxSteps := 1000000}) only [a2_1, b2_1, a3_2, b3_2, a3_1, b3_1, a4_3, b4_3, a4_2, b4_2, a4_1, b4_1, a5_4, b5_4, a5_3, b5_3, a5_2, b5_2, a5_1, b5_1, a6_5, b6_5, a6_4, b6_4, a6_3, b6_3, a6_2, b6_2, a6_1, b6_1, v3, o5, o7, o11, o12, sgs, q26, q29, q30, q28, b5, bs, b11, b12, tr_bool, resD, valD, eqEv, x1, x2, tb28_e, Int.natCast_nonneg, Nat.le_refl, Int.le_refl, List.take_succ_cons, List.take_zero, decide_true, decide_false, Bool.and_false, Bool.false_and, zz, zzN, zzF, fltEv, isArithF, ↓reduceIte, Nat.reduceEqDiff, Nat.reduceBEq, Int.reduceLT, Int.reduceLE, Int.reduceToNat, Int.reduceEq, Int.reduceAdd, Int.reduceSub, Int.reduceMul, Int.reduceNeg, Nat.reduceMul, Nat.reduceSub, Nat.reduceLeDiff, Nat.reduceLT, Int.reduceGT, Int.reduceBEq, Int.reduceBNe, reduceCtorEq, Nat.reduceAdd, Ins.map, Fr.ev, argFr, argE, binEv, intEv, shEv, strEv, unEv, Fr.mark, evRes, tup, lenD, lookupD, loadD, partD, storeD, cellsD, cellOk, setAt, objNe, objSame, eqEv, readEv, buildD, buildRows, rowsOf, elemsOf]
                  decide
                | gt =>
                  have v3 : cntO (some .gt) 3 = 1 := by decide
                  have o5 : ordB 5 (some .gt) = false := by decide
                  have o7 : ordB 7 (Option.map Ordering.swap (some .gt)) = false := by decide
                  have o11 : ordB 11 (some .gt) = false := by decide
                  have o12 : ordB 12 (some .gt) = true := by decide
                  simp (config := {maxSteps := 1000000}) only [a2_1, b2_1, v3, o5, o7, o11, o12, sgs, q26, q29, q30, q28, b5, bs, b11, b12, tr_bool, resD, valD, eqEv, x1, x2, tb28_e, Int.natCast_nonneg, Nat.le_refl, Int.le_refl, List.take_succ_cons, List.take_zero, decide_true, decide_false, Bool.and_false, Bool.false_and, zz, zzN, zzF, fltEv, isArithF, ↓reduceIte, Nat.reduceEqDiff, Nat.reduceBEq, Int.reduceLT, Int.reduceLE, Int.reduceToNat, Int.reduceEq, Int.reduceAdd, Int.reduceSub, Int.reduceMul, Int.reduceNeg, Nat.reduceMul, Nat.reduceSub, Nat.reduceLeDiff, Nat.reduceLT, Int.reduceGT, Int.reduceBEq, Int.reduceBNe, reduceCtorEq, Nat.reduceAdd, Ins.map, Fr.ev, argFr, argE, binEv, intEv, shEv, strEv, unEv, Fr.mark, evRes, tup, lenD, lookupD, loadD, partD, storeD, cellsD, cellOk, setAt, objNe, objSame, eqEv, readEv, buildD, buildRows, rowsOf, elemsOf]
                  intro i3 a3_2 b3_2 a3_1 b3_1
                  simp (config := {maxSteps := 1000000}) only [a2_1, b2_1, a3_2, b3_2, a3_1, b3_1, v3, o5, o7, o11, o12, sgs, q26, q29, q30, q28, b5, bs, b11, b12, tr_bool, resD, valD, eqEv, x1, x2, tb28_e, Int.natCast_nonneg, Nat.le_refl, Int.le_refl, List.take_succ_cons, List.take_zero, decide_true, decide_false, Bool.and_false, Bool.false_and, zz, zzN, zzF, fltEv, isArithF, ↓reduceIte, Nat.reduceEqDiff, Nat.reduceBEq, Int.reduceLT, Int.reduceLE, Int.reduceToNat, Int.reduceEq, Int.reduceAdd, Int.reduceSub, Int.reduceMul, Int.reduceNeg, Nat.reduceMul, Nat.reduceSub, Nat.reduceLeDiff, Nat.reduceLT, Int.reduceGT, Int.reduceBEq, Int.reduceBNe, reduceCtorEq, Nat.reduceAdd, Ins.map, Fr.ev, argFr, argE, binEv, intEv, shEv, strEv, unEv, Fr.mark, evRes, tup, lenD, lookupD, loadD, partD, storeD, cellsD, cellOk, setAt, objNe, objSame, eqEv, readEv, buildD, buildRows, rowsOf, elemsOf]
                  intro i4 a4_3 b4_3 a4_2 b4_2 a4_1 b4_1
                  simp (config := {maxSteps := 1000000}) only [a2_1, b2_1, a3_2, b3_2, a3_1, b3_1, a4_3, b4_3, a4_2, b4_2, a4_1, b4_1, v3, o5, o7, o11, o12, sgs, q26, q29, q30, q28, b5, bs, b11, b12, tr_bool, resD, valD, eqEv, x1, x2, tb28_e, Int.natCast_nonneg, Nat.le_refl, Int.le_refl, List.take_succ_cons, List.take_zero, decide_true, decide_false, Bool.and_false, Bool.false_and, zz, zzN, zzF, fltEv, isArithF, ↓reduceIte, Nat.reduceEqDiff, Nat.reduceBEq, Int.reduceLT, Int.reduceLE, Int.reduceToNat, Int.reduceEq, Int.reduceAdd, Int.reduceSub, Int.reduceMul, Int.reduceNeg, Nat.reduceMul, Nat.reduceSub, Nat.reduceLeDiff, Nat.reduceLT, Int.reduceGT, Int.reduceBEq, Int.reduceBNe, reduceCtorEq, Nat.reduceAdd, Ins.map, Fr.ev, argFr, argE, binEv, intEv, shEv, strEv, unEv, Fr.mark, evRes, tup, lenD, lookupD, loadD, partD, storeD, cellsD, cellOk, setAt, objNe, objSame, eqEv, readEv, buildD, buildRows, rowsOf, elemsOf]
                  intro i5 a5_4 b5_4 a5_3 b5_3 a5_2 b5_2 a5_1 b5_1
                  simp (config := {maxSteps := 1000000}) only [a2_1, b2_1, a3_2, b3_2, a3_1, b3_1, a4_3, b4_3, a4_2, b4_2, a4_1, b4_1, a5_4, b5_4, a5_3, b5_3, a5_2, b5_2, a5_1, b5_1, v3, o5, o7, o11, o12, sgs, q26, q29, q30, q28, b5, bs, b11, b12, tr_bool, resD, valD, eqEv, x1, x2, tb28_e, Int.natCast_nonneg, Nat.le_refl, Int.le_refl, List.take_succ_cons, List.take_zero, decide_true, decide_false, Bool.and_false, Bool.false_and, zz, zzN, zzF, fltEv, isArithF, ↓reduceIte, Nat.reduceEqDiff, Nat.reduceBEq, Int.reduceLT, Int.reduceLE, Int.reduceToNat, Int.reduceEq, Int.reduceAdd, Int.reduceSub, Int.reduceMul, Int.reduceNeg, Nat.reduceMul, Nat.reduceSub, Nat.reduceLeDiff, Nat.reduceLT, Int.reduceGT, Int.reduceBEq, Int.reduceBNe, reduceCtorEq, Nat.reduceAdd, Ins.map, Fr.ev, argFr, argE, binEv, intEv, shEv, strEv, unEv, Fr.mark, evRes, tup, lenD, lookupD, loadD, partD, storeD, cellsD, cellOk, setAt, objNe, objSame, eqEv, readEv, buildD, buildRows, rowsOf, elemsOf]
                  intro i6 a6_5 b6_5 a6_4 b6_4 a6_3 b6_3 a6_2 b6_2 a6_1 b6_1
                  simp (config := {maxSteps := 1000000}) only [a2_1, b2_1, a3_2, b3_2, a3_1, b3_1, a4_3, b4_3, a4_2, b4_2, a4_1, b4_1, a5_4, b5_4, a5_3, b5_3, a5_2, b5_2, a5_1, b5_1, a6_5, b6_5, a6_4, b6_4, a6_3, b6_3, a6_2, b6_2, a6_1, b6_1, v3, o5, o7, o11, o12, sgs, q26, q29, q30, q28, b5, bs, b11, b12, tr_bool, resD, valD, eqEv, x1, x2, tb28_e, Int.natCast_nonneg, Nat.le_refl, Int.le_refl, List.take_succ_cons, List.take_zero, decide_true, decide_false, Bool.and_false, Bool.false_and, zz, zzN, zzF, fltEv, isArithF, ↓reduceIte, Nat.reduceEqDiff, Nat.reduceBEq, Int.reduceLT, Int.reduceLE, Int.reduceToNat, Int.reduceEq, Int.reduceAdd, Int.reduceSub, Int.reduceMul, Int.reduceNeg, Nat.reduceMul, Nat.reduceSub, Nat.reduceLeDiff, Nat.reduceLT, Int.reduceGT, Int.reduceBEq, Int.reduceBNe, reduceCtorEq, Nat.reduceAdd, Ins.map, Fr.ev, argFr, argE, binEv, intEv, shEv, strEv, unEv, Fr.mark, evRes, tup, lenD, lookupD, loadD, partD, storeD, cellsD, cellOk, setAt, objNe, objSame, eqEv, readEv, buildD, buildRows, rowsOf, elemsOf]
                  decide
    · have m1 : (t != 1) = true := by simp; omega
      have m2 : (t != 2) = true := by simp; omega
      simp (config := {maxSteps := 1000000}) only [h1, a2_1, b2_1, m1, m2, q28, tb28_e, Int.natCast_nonneg, Nat.le_refl, Int.le_refl, List.take_succ_cons, List.take_zero, decide_true, decide_false, Bool.and_false, Bool.false_and, zz, zzN, zzF, fltEv, isArithF, ↓reduceIte, Nat.reduceEqDiff, Nat.reduceBEq, Int.reduceLT, Int.reduceLE, Int.reduceToNat, Int.reduceEq, Int.reduceAdd, Int.reduceSub, Int.reduceMul, Int.reduceNeg, Nat.reduceMul, Nat.reduceSub, Nat.reduceLeDiff, Nat.reduceLT, Int.reduceGT, Int.reduceBEq, Int.reduceBNe, reduceCtorEq, Nat.reduceAdd, Ins.map, Fr.ev, argFr, argE, binEv, intEv, shEv, strEv, unEv, Fr.mark, evRes, tup, lenD, lookupD, loadD, partD, storeD, cellsD, cellOk, setAt, objNe, objSame, eqEv, readEv, buildD, buildRows, rowsOf, elemsOf]
end Go.Proofs.Ytaimobfakcompaa.Zz
