/- The laws of values: wrapping. -/
import Derived.Test.YtaimobfakcompaaZV1
namespace Go.Proofs.Ytaimobfakcompaa.Zz
set_option linter.unusedVariables false
set_option linter.unusedSimpArgs false
set_option maxRecDepth 20000
def p28 : Plan := ⟨⟨[], [], [], [], [], []⟩, [(4, [0, 1, 2, 3, 4, 5, 6, 7, 8])]⟩
/-- cupel/cupellaw13.awake (0 parameters, 0 captured) -/
def s28 : Stm :=
  .seq (.ops [⟨.mov (.c (.bool false)), (some 0), none, true⟩])
  (.seq (.ops [⟨.qcall (.f 32) [(.c (.float .f64 0))], (some 10), none, false⟩,
     ⟨.qcall (.f 32) [(.c (.float .f64 0))], (some 11), none, false⟩,
     ⟨.qcall (.f 26) [(.c (.str [47])), (.t 10), (.t 11)], (some 12), none, false⟩,
     ⟨.mov (.t 12), (some 9), none, true⟩,
     ⟨.extract (.t 9) 0, (some 13), none, true⟩,
     ⟨.extract (.t 9) 1, (some 14), none, true⟩,
     ⟨.alloc [(.int .i64 0), (.int .i64 0)], (some 1), none, false⟩,
     ⟨.store 2 (.t 1) (.t 13), none, none, false⟩,
     ⟨.mov (.t 14), (some 2), none, true⟩])
  (.seq (.ops [⟨.load (some 2) (.t 1), (some 16), none, false⟩,
     ⟨.load (some 2) (.t 1), (some 17), none, false⟩,
     ⟨.qcall (.f 26) [(.c (.str [61, 61])), (.t 16), (.t 17)], (some 18), none, false⟩,
     ⟨.mov (.t 18), (some 15), none, true⟩,
     ⟨.extract (.t 15) 0, (some 19), none, true⟩,
     ⟨.extract (.t 15) 1, (some 20), none, true⟩,
     ⟨.alloc [(.int .i64 0), (.int .i64 0)], (some 3), none, false⟩,
     ⟨.store 2 (.t 3) (.t 19), none, none, false⟩,
     ⟨.mov (.t 20), (some 4), none, true⟩])
  (.seq (.ops [⟨.qcall (.f 32) [(.c (.float .f64 4607182418800017408))], (some 22), none, false⟩,
     ⟨.qcall (.f 32) [(.c (.float .f64 0))], (some 23), none, false⟩,
     ⟨.qcall (.f 33) [(.c (.str [45])), (.t 23)], (some 24), none, false⟩,
     ⟨.qcall (.f 26) [(.c (.str [47])), (.t 22), (.t 24)], (some 25), none, false⟩,
     ⟨.mov (.t 25), (some 21), none, true⟩,
     ⟨.extract (.t 21) 0, (some 26), none, true⟩,
     ⟨.extract (.t 21) 1, (some 27), none, true⟩,
     ⟨.alloc [(.int .i64 0), (.int .i64 0)], (some 5), none, false⟩,
     ⟨.store 2 (.t 5) (.t 26), none, none, false⟩,
     ⟨.mov (.t 27), (some 6), none, true⟩])
  (.seq (.ops [⟨.load (some 2) (.t 5), (some 29), none, false⟩,
     ⟨.qcall (.f 32) [(.c (.float .f64 18318360957983683996))], (some 30), none, false⟩,
     ⟨.qcall (.f 26) [(.c (.str [60])), (.t 29), (.t 30)], (some 31), none, false⟩,
     ⟨.mov (.t 31), (some 28), none, true⟩,
     ⟨.extract (.t 28) 0, (some 32), none, true⟩,
     ⟨.extract (.t 28) 1, (some 33), none, true⟩,
     ⟨.alloc [(.int .i64 0), (.int .i64 0)], (some 7), none, false⟩,
     ⟨.store 2 (.t 7) (.t 32), none, none, false⟩,
     ⟨.mov (.t 33), (some 8), none, true⟩])
  (.seq (.ops [⟨.fieldAddr 0 (.t 1), (some 34), none, true⟩,
     ⟨.load none (.t 34), (some 35), none, false⟩,
     ⟨.bin .eql (.t 35) (.c (.int .i64 2)), (some 36), none, true⟩,
     ⟨.mov (.t 36), (some 37), none, true⟩,
     ⟨.load (some 2) (.t 3), (some 38), (some (37, true)), false⟩,
     ⟨.qcall (.f 29) [(.t 38)], (some 39), (some (37, true)), false⟩,
     ⟨.un .not (.t 39), (some 40), (some (37, true)), true⟩,
     ⟨.pick (.t 37) (.t 40) (.c (.bool false)), (some 41), none, true⟩,
     ⟨.mov (.t 41), (some 42), none, true⟩,
     ⟨.load (some 2) (.t 7), (some 43), (some (42, true)), false⟩,
     ⟨.qcall (.f 29) [(.t 43)], (some 44), (some (42, true)), false⟩,
     ⟨.pick (.t 42) (.t 44) (.c (.bool false)), (some 45), none, true⟩,
     ⟨.mov (.t 45), (some 0), none, true⟩])
  (.ret))))))
theorem st28 : stmOf Try.prog 28 p28 = some (s28, [.tmp 0], 46) := by kernel_rfl

def p9 : Plan := ⟨⟨[], [], [], [], [], []⟩, [(2, [0, 1, 2, 3, 4, 5, 6, 7, 8, 9]), (9, [0, 1, 2, 3, 4, 5, 6, 7, 8, 9])]⟩
/-- cupel/cupellaw13.ValLaws (2 parameters, 0 captured) -/
def s9 : Stm :=
  .seq (.ops [⟨.mov (.c (.bool false)), (some 4), none, true⟩])
  (.seq (.ops [⟨.mov (.t 0), (some 18), none, true⟩,
     ⟨.qcall (.f 27) [(.t 18)], (some 19), none, false⟩,
     ⟨.mov (.t 1), (some 20), none, true⟩,
     ⟨.qcall (.f 27) [(.t 20)], (some 21), none, false⟩,
     ⟨.qcall (.f 26) [(.c (.str [43])), (.t 19), (.t 21)], (some 22), none, false⟩,
     ⟨.mov (.t 22), (some 17), none, true⟩,
     ⟨.extract (.t 17) 0, (some 23), none, true⟩,
     ⟨.extract (.t 17) 1, (some 24), none, true⟩,
     ⟨.alloc [(.int .i64 0), (.int .i64 0)], (some 5), none, false⟩,
     ⟨.store 2 (.t 5) (.t 23), none, none, false⟩,
     ⟨.mov (.t 24), (some 6), none, true⟩])
  (.seq (.ops [⟨.load (some 2) (.t 5), (some 26), none, false⟩,
     ⟨.mov (.t 1), (some 27), none, true⟩,
     ⟨.qcall (.f 27) [(.t 27)], (some 28), none, false⟩,
     ⟨.qcall (.f 26) [(.c (.str [45])), (.t 26), (.t 28)], (some 29), none, false⟩,
     ⟨.mov (.t 29), (some 25), none, true⟩,
     ⟨.extract (.t 25) 0, (some 30), none, true⟩,
     ⟨.extract (.t 25) 1, (some 31), none, true⟩,
     ⟨.alloc [(.int .i64 0), (.int .i64 0)], (some 7), none, false⟩,
     ⟨.store 2 (.t 7) (.t 30), none, none, false⟩,
     ⟨.mov (.t 31), (some 8), none, true⟩])
  (.seq (.ops [⟨.mov (.t 0), (some 33), none, true⟩,
     ⟨.qcall (.f 27) [(.t 33)], (some 34), none, false⟩,
     ⟨.mov (.t 1), (some 35), none, true⟩,
     ⟨.qcall (.f 27) [(.t 35)], (some 36), none, false⟩,
     ⟨.qcall (.f 26) [(.c (.str [47])), (.t 34), (.t 36)], (some 37), none, false⟩,
     ⟨.mov (.t 37), (some 32), none, true⟩,
     ⟨.extract (.t 32) 0, (some 38), none, true⟩,
     ⟨.extract (.t 32) 1, (some 39), none, true⟩,
     ⟨.alloc [(.int .i64 0), (.int .i64 0)], (some 9), none, false⟩,
     ⟨.store 2 (.t 9) (.t 38), none, none, false⟩,
     ⟨.mov (.t 39), (some 10), none, true⟩])
  (.seq (.ops [⟨.mov (.t 0), (some 41), none, true⟩,
     ⟨.qcall (.f 27) [(.t 41)], (some 42), none, false⟩,
     ⟨.mov (.t 1), (some 43), none, true⟩,
     ⟨.qcall (.f 27) [(.t 43)], (some 44), none, false⟩,
     ⟨.qcall (.f 26) [(.c (.str [37])), (.t 42), (.t 44)], (some 45), none, false⟩,
     ⟨.mov (.t 45), (some 40), none, true⟩,
     ⟨.extract (.t 40) 0, (some 46), none, true⟩,
     ⟨.extract (.t 40) 1, (some 47), none, true⟩,
     ⟨.alloc [(.int .i64 0), (.int .i64 0)], (some 11), none, false⟩,
     ⟨.store 2 (.t 11) (.t 46), none, none, false⟩,
     ⟨.mov (.t 47), (some 12), none, true⟩])
  (.seq (.seq (.ops [⟨.qcall (.f 28) [], (some 48), none, false⟩,
      ⟨.un .not (.t 48), (some 49), none, true⟩,
      ⟨.mov (.t 49), (some 50), none, true⟩,
      ⟨.fieldAddr 1 (.t 7), (some 51), (some (50, false)), true⟩,
      ⟨.load none (.t 51), (some 52), (some (50, false)), false⟩,
      ⟨.mov (.t 0), (some 53), (some (50, false)), true⟩,
      ⟨.bin .neq (.t 52) (.t 53), (some 54), (some (50, false)), true⟩,
      ⟨.pick (.t 50) (.c (.bool true)) (.t 54), (some 55), none, true⟩,
      ⟨.mov (.t 55), (some 56), none, true⟩,
      ⟨.mov (.t 10), (some 57), (some (56, false)), true⟩,
      ⟨.bin .eql (.t 57) (.c (.int .i64 3)), (some 58), (some (56, false)), true⟩,
      ⟨.mov (.t 1), (some 59), (some (56, false)), true⟩,
      ⟨.bin .eql (.t 59) (.c (.int .i64 0)), (some 60), (some (56, false)), true⟩,
      ⟨.eql .bool true (.t 58) (.t 60), (some 61), (some (56, false)), true⟩,
      ⟨.pick (.t 56) (.c (.bool true)) (.t 61), (some 62), none, true⟩,
      ⟨.mov (.t 62), (some 63), none, true⟩,
      ⟨.mov (.t 10), (some 64), (some (63, false)), true⟩,
      ⟨.mov (.t 12), (some 65), (some (63, false)), true⟩,
      ⟨.bin .neq (.t 64) (.t 65), (some 66), (some (63, false)), true⟩,
      ⟨.pick (.t 63) (.c (.bool true)) (.t 66), (some 67), none, true⟩])
   (.cond (.t 67)
    (.seq (.ops [⟨.mov (.c (.bool false)), (some 4), none, true⟩])
     (.ret))
    (.skip)))
  (.seq (.seq (.ops [⟨.mov (.t 1), (some 68), none, true⟩,
      ⟨.bin .eql (.t 68) (.c (.int .i64 0)), (some 69), none, true⟩])
   (.cond (.t 69)
    (.seq (.ops [⟨.fieldAddr 0 (.t 9), (some 70), none, true⟩,
        ⟨.load none (.t 70), (some 71), none, false⟩,
        ⟨.bin .eql (.t 71) (.c (.int .i64 0)), (some 72), none, true⟩,
        ⟨.mov (.t 72), (some 73), none, true⟩,
        ⟨.fieldAddr 0 (.t 11), (some 74), (some (73, true)), true⟩,
        ⟨.load none (.t 74), (some 75), (some (73, true)), false⟩,
        ⟨.bin .eql (.t 75) (.c (.int .i64 0)), (some 76), (some (73, true)), true⟩,
        ⟨.pick (.t 73) (.t 76) (.c (.bool false)), (some 77), none, true⟩,
        ⟨.mov (.t 77), (some 4), none, true⟩])
     (.ret))
    (.skip)))
  (.seq (.ops [⟨.load (some 2) (.t 9), (some 79), none, false⟩,
     ⟨.mov (.t 1), (some 80), none, true⟩,
     ⟨.qcall (.f 27) [(.t 80)], (some 81), none, false⟩,
     ⟨.qcall (.f 26) [(.c (.str [42])), (.t 79), (.t 81)], (some 82), none, false⟩,
     ⟨.mov (.t 82), (some 78), none, true⟩,
     ⟨.extract (.t 78) 0, (some 83), none, true⟩,
     ⟨.extract (.t 78) 1, (some 84), none, true⟩,
     ⟨.alloc [(.int .i64 0), (.int .i64 0)], (some 13), none, false⟩,
     ⟨.store 2 (.t 13) (.t 83), none, none, false⟩,
     ⟨.mov (.t 84), (some 14), none, true⟩])
  (.seq (.ops [⟨.load (some 2) (.t 13), (some 86), none, false⟩,
     ⟨.load (some 2) (.t 11), (some 87), none, false⟩,
     ⟨.qcall (.f 26) [(.c (.str [43])), (.t 86), (.t 87)], (some 88), none, false⟩,
     ⟨.mov (.t 88), (some 85), none, true⟩,
     ⟨.extract (.t 85) 0, (some 89), none, true⟩,
     ⟨.extract (.t 85) 1, (some 90), none, true⟩,
     ⟨.alloc [(.int .i64 0), (.int .i64 0)], (some 15), none, false⟩,
     ⟨.store 2 (.t 15) (.t 89), none, none, false⟩,
     ⟨.mov (.t 90), (some 16), none, true⟩])
  (.seq (.ops [⟨.fieldAddr 1 (.t 15), (some 91), none, true⟩,
     ⟨.load none (.t 91), (some 92), none, false⟩,
     ⟨.mov (.t 0), (some 93), none, true⟩,
     ⟨.bin .eql (.t 92) (.t 93), (some 94), none, true⟩,
     ⟨.mov (.t 94), (some 95), none, true⟩,
     ⟨.fieldAddr 1 (.t 11), (some 96), (some (95, true)), true⟩,
     ⟨.load none (.t 96), (some 97), (some (95, true)), false⟩,
     ⟨.bin .eql (.t 97) (.c (.int .i64 0)), (some 98), (some (95, true)), true⟩,
     ⟨.mov (.t 98), (some 99), (some (95, true)), true⟩,
     ⟨.fieldAddr 1 (.t 11), (some 100), (some (99, false)), true⟩,
     ⟨.load none (.t 100), (some 101), (some (99, false)), false⟩,
     ⟨.bin .lss (.t 101) (.c (.int .i64 0)), (some 102), (some (99, false)), true⟩,
     ⟨.mov (.t 0), (some 103), (some (99, false)), true⟩,
     ⟨.bin .lss (.t 103) (.c (.int .i64 0)), (some 104), (some (99, false)), true⟩,
     ⟨.eql .bool false (.t 102) (.t 104), (some 105), (some (99, false)), true⟩,
     ⟨.pick (.t 99) (.c (.bool true)) (.t 105), (some 106), (some (95, true)), true⟩,
     ⟨.pick (.t 95) (.t 106) (.c (.bool false)), (some 107), none, true⟩,
     ⟨.mov (.t 107), (some 4), none, true⟩])
  (.ret))))))))))
theorem st9 : stmOf Try.prog 9 p9 = some (s9, [.tmp 4], 108) := by kernel_rfl

theorem bI_add (a b : Int) : binK (sgnOf [43]) 1 a 1 b = ((1, IntKind.i64.wrap (a + b)), 0) := rfl
theorem bI_sub (a b : Int) : binK (sgnOf [45]) 1 a 1 b = ((1, IntKind.i64.wrap (a - b)), 0) := rfl
theorem bI_mul (a b : Int) : binK (sgnOf [42]) 1 a 1 b = ((1, IntKind.i64.wrap (a * b)), 0) := rfl
theorem bI_quo (a b : Int) : binK (sgnOf [47]) 1 a 1 b = if b == 0 then ((0, 0), 3) else ((1, IntKind.i64.wrap (a.tdiv b)), 0) := rfl
theorem bI_rem (a b : Int) : binK (sgnOf [37]) 1 a 1 b = if b == 0 then ((0, 0), 3) else ((1, a.tmod b), 0) := rfl
def nanN : Int := 9221120237041090561
theorem fl0 : IntKind.i64.wrap (canon 0) = 0 := by decide +kernel
theorem fl1 : IntKind.i64.wrap (canon 4607182418800017408) = 4607182418800017408 := by decide +kernel
theorem fl2 : IntKind.i64.wrap (canon 18318360957983683996) = -128383115725867620 := by decide +kernel
theorem un0 : unK [45] 2 0 = (2, -9223372036854775808) := by decide +kernel
theorem bF_nan : binK (sgnOf [47]) 2 0 2 0 = ((2, 9221120237041090561), 0) := by decide +kernel
theorem bF_eq : binK (sgnOf [61, 61]) 2 9221120237041090561 2 9221120237041090561 = ((3, 0), 0) := by decide +kernel
theorem bF_inf : binK (sgnOf [47]) 2 4607182418800017408 2 (-9223372036854775808) = ((2, -4503599627370496), 0) := by decide +kernel
theorem bF_low : binK (sgnOf [60]) 2 (-4503599627370496) 2 (-128383115725867620) = ((3, 1), 0) := by decide +kernel
theorem tr0 : trueV 3 0 = false := rfl
theorem tr1 : trueV 3 1 = true := rfl
set_option maxHeartbeats 1000000 in
theorem valAwake_c : PCall Try.prog 28 [] (.bool true) := by
  refine PCall.run tb35_ok st28 (by simp) fun E => ?_
  simp (config := {maxSteps := 1000000}) only [s28, q32, q26, q33, q29, fl0, fl1, fl2, un0, bF_nan, bF_eq, bF_inf, bF_low, tr0, tr1, resD, valD, tb35_e, Int.natCast_nonneg, Nat.le_refl, Int.le_refl, List.take_succ_cons, List.take_zero, decide_true, decide_false, Bool.and_false, Bool.false_and, zz, zzN, zzF, fltEv, isArithF, ↓reduceIte, Nat.reduceEqDiff, Nat.reduceBEq, Int.reduceLT, Int.reduceLE, Int.reduceToNat, Int.reduceEq, Int.reduceAdd, Int.reduceSub, Int.reduceMul, Int.reduceNeg, Nat.reduceMul, Nat.reduceSub, Nat.reduceLeDiff, Nat.reduceLT, Int.reduceGT, Int.reduceBEq, Int.reduceBNe, reduceCtorEq, Nat.reduceAdd, Ins.map, Fr.ev, argFr, argE, binEv, intEv, shEv, strEv, unEv, Fr.mark, evRes, tup, lenD, lookupD, loadD, partD, storeD, cellsD, cellOk, setAt, objNe, objSame, eqEv, readEv, buildD, buildRows, rowsOf, elemsOf]
  intro i1  i2 a2_1 b2_1 i3 a3_2 b3_2 a3_1 b3_1 i4 a4_3 b4_3 a4_2 b4_2 a4_1 b4_1
  simp (config := {maxSteps := 1000000}) only [a2_1, b2_1, a3_2, b3_2, a3_1, b3_1, a4_3, b4_3, a4_2, b4_2, a4_1, b4_1, q32, q26, q33, q29, fl0, fl1, fl2, un0, bF_nan, bF_eq, bF_inf, bF_low, tr0, tr1, resD, valD, tb35_e, Int.natCast_nonneg, Nat.le_refl, Int.le_refl, List.take_succ_cons, List.take_zero, decide_true, decide_false, Bool.and_false, Bool.false_and, zz, zzN, zzF, fltEv, isArithF, ↓reduceIte, Nat.reduceEqDiff, Nat.reduceBEq, Int.reduceLT, Int.reduceLE, Int.reduceToNat, Int.reduceEq, Int.reduceAdd, Int.reduceSub, Int.reduceMul, Int.reduceNeg, Nat.reduceMul, Nat.reduceSub, Nat.reduceLeDiff, Nat.reduceLT, Int.reduceGT, Int.reduceBEq, Int.reduceBNe, reduceCtorEq, Nat.reduceAdd, Ins.map, Fr.ev, argFr, argE, binEv, intEv, shEv, strEv, unEv, Fr.mark, evRes, tup, lenD, lookupD, loadD, partD, storeD, cellsD, cellOk, setAt, objNe, objSame, eqEv, readEv, buildD, buildRows, rowsOf, elemsOf]
def q28 : List D → Option D
  | [] => if True then some (.bool true) else none
  | _ => none
theorem q28_ok (args : List D) (d : D) (h : q28 args = some d) : PCall Try.prog 28 args d := by
  unfold q28 at h
  split at h
  · split at h
    · cases h; exact valAwake_c
    · cases h
  · cases h

def tb28 : Tab := tb35.addQ 28 q28
theorem tb28_q (g : FuncId) (args : List D) : tb28.q g args = if g = 28 then q28 args else tb35.q g args := rfl
theorem tb28_a : tb28.a = tb35.a := rfl
theorem tb28_c : tb28.c = tb35.c := rfl
theorem tb28_ok : tb28.ok Try.prog := Tab.addQ_ok tb35_ok q28_ok
theorem tb28_e : type_of% (And.intro (And.intro @tb28_q (And.intro @tb28_a @tb28_c)) @tb35_e) := (And.intro (And.intro @tb28_q (And.intro @tb28_a @tb28_c)) @tb35_e)

theorem wrap_ex (x : Int) : ∃ k : Int, IntKind.i64.wrap x = x + 18446744073709551616 * k ∧ -9223372036854775808 ≤ IntKind.i64.wrap x ∧ IntKind.i64.wrap x ≤ 9223372036854775807 := by
  simp only [IntKind.wrap, IntKind.bits, IntKind.signed]
  simp only [if_true, Bool.true_and]
  by_cases h : x % 2 ^ 64 < 2 ^ (64 - 1)
  · refine ⟨-(x / 18446744073709551616), ?_⟩
    simp; split <;> omega
  · refine ⟨-(x / 18446744073709551616) - 1, ?_⟩
    simp; split <;> omega
theorem tmod_sign {a b : Int} (h : b ≠ 0) : (a.tmod b == 0) = true ∨ (decide (a.tmod b < 0) == decide (a < 0)) = true := by
  by_cases h0 : a.tmod b = 0
  · exact .inl (by simp [h0])
  · refine .inr ?_
    by_cases ha : a < 0
    · have h1 : 0 ≤ (-a).tmod b := Int.tmod_nonneg _ (by omega)
      rw [Int.neg_tmod] at h1
      have : a.tmod b < 0 := by omega
      simp [this, ha]
    · have h1 : 0 ≤ a.tmod b := Int.tmod_nonneg _ (by omega)
      have : ¬ a.tmod b < 0 := by omega
      simp [this, ha]
set_option maxHeartbeats 1000000 in
theorem valLaws_c (a b : Int) (ha : -9223372036854775808 ≤ a ∧ a ≤ 9223372036854775807) : PCall Try.prog 9 [.int .i64 a, .int .i64 b] (.bool true) := by
  refine PCall.run tb28_ok st9 (by simp) fun E => ?_
  have w1 : IntKind.i64.wrap (IntKind.i64.wrap (a + b) - b) = a := by
    obtain ⟨k, h1, _⟩ := wrap_ex (a + b)
    obtain ⟨m, h2, h3, h4⟩ := wrap_ex (IntKind.i64.wrap (a + b) - b)
    generalize IntKind.i64.wrap (a + b) = x at *
    omega
  have n1 : (a != a) = false := by simp
  cases h0 : (b == 0) with
  | true =>
    simp (config := {maxSteps := 1000000}) only [s9, q27, q26, q28, q29, h0, bI_add, bI_sub, bI_quo, bI_rem, bI_mul, w1, resD, valD, tb28_e, Int.natCast_nonneg, Nat.le_refl, Int.le_refl, List.take_succ_cons, List.take_zero, decide_true, decide_false, Bool.and_false, Bool.false_and, zz, zzN, zzF, fltEv, isArithF, ↓reduceIte, Nat.reduceEqDiff, Nat.reduceBEq, Int.reduceLT, Int.reduceLE, Int.reduceToNat, Int.reduceEq, Int.reduceAdd, Int.reduceSub, Int.reduceMul, Int.reduceNeg, Nat.reduceMul, Nat.reduceSub, Nat.reduceLeDiff, Nat.reduceLT, Int.reduceGT, Int.reduceBEq, Int.reduceBNe, reduceCtorEq, Nat.reduceAdd, Ins.map, Fr.ev, argFr, argE, binEv, intEv, shEv, strEv, unEv, Fr.mark, evRes, tup, lenD, lookupD, loadD, partD, storeD, cellsD, cellOk, setAt, objNe, objSame, eqEv, readEv, buildD, buildRows, rowsOf, elemsOf]
    intro i1  i2 a2_1 b2_1 i3 a3_2 b3_2 a3_1 b3_1 i4 a4_3 b4_3 a4_2 b4_2 a4_1 b4_1
    simp (config := {maxSteps := 1000000}) only [a2_1, b2_1, a3_2, b3_2, a3_1, b3_1, a4_3, b4_3, a4_2, b4_2, a4_1, b4_1, q27, q26, q28, q29, h0, n1, bI_add, bI_sub, bI_quo, bI_rem, bI_mul, w1, resD, valD, eqEv, tb28_e, Int.natCast_nonneg, Nat.le_refl, Int.le_refl, List.take_succ_cons, List.take_zero, decide_true, decide_false, Bool.and_false, Bool.false_and, zz, zzN, zzF, fltEv, isArithF, ↓reduceIte, Nat.reduceEqDiff, Nat.reduceBEq, Int.reduceLT, Int.reduceLE, Int.reduceToNat, Int.reduceEq, Int.reduceAdd, Int.reduceSub, Int.reduceMul, Int.reduceNeg, Nat.reduceMul, Nat.reduceSub, Nat.reduceLeDiff, Nat.reduceLT, Int.reduceGT, Int.reduceBEq, Int.reduceBNe, reduceCtorEq, Nat.reduceAdd, Ins.map, Fr.ev, argFr, argE, binEv, intEv, shEv, strEv, unEv, Fr.mark, evRes, tup, lenD, lookupD, loadD, partD, storeD, cellsD, cellOk, setAt, objNe, objSame, eqEv, readEv, buildD, buildRows, rowsOf, elemsOf]
  | false =>
    have hb : b ≠ 0 := by simpa using h0
    have w2 : IntKind.i64.wrap (IntKind.i64.wrap (IntKind.i64.wrap (a.tdiv b) * b) + a.tmod b) = a := by
      obtain ⟨k, h1, _⟩ := wrap_ex (a.tdiv b)
      have e := Int.mul_tdiv_add_tmod a b
      generalize IntKind.i64.wrap (a.tdiv b) = q at h1 ⊢
      have hq : q * b = b * a.tdiv b + 18446744073709551616 * (k * b) := by rw [h1, Int.add_mul, Int.mul_comm (a.tdiv b) b, Int.mul_assoc]
      obtain ⟨m, h2, _⟩ := wrap_ex (q * b)
      generalize IntKind.i64.wrap (q * b) = p at h2 ⊢
      obtain ⟨l, h3, h4, h5⟩ := wrap_ex (p + a.tmod b)
      generalize IntKind.i64.wrap (p + a.tmod b) = s at *
      omega
    have sg := tmod_sign (a := a) hb
    simp (config := {maxSteps := 1000000}) only [s9, q27, q26, q28, q29, h0, bI_add, bI_sub, bI_quo, bI_rem, bI_mul, w1, resD, valD, tb28_e, Int.natCast_nonneg, Nat.le_refl, Int.le_refl, List.take_succ_cons, List.take_zero, decide_true, decide_false, Bool.and_false, Bool.false_and, zz, zzN, zzF, fltEv, isArithF, ↓reduceIte, Nat.reduceEqDiff, Nat.reduceBEq, Int.reduceLT, Int.reduceLE, Int.reduceToNat, Int.reduceEq, Int.reduceAdd, Int.reduceSub, Int.reduceMul, Int.reduceNeg, Nat.reduceMul, Nat.reduceSub, Nat.reduceLeDiff, Nat.reduceLT, Int.reduceGT, Int.reduceBEq, Int.reduceBNe, reduceCtorEq, Nat.reduceAdd, Ins.map, Fr.ev, argFr, argE, binEv, intEv, shEv, strEv, unEv, Fr.mark, evRes, tup, lenD, lookupD, loadD, partD, storeD, cellsD, cellOk, setAt, objNe, objSame, eqEv, readEv, buildD, buildRows, rowsOf, elemsOf]
    intro i1  i2 a2_1 b2_1 i3 a3_2 b3_2 a3_1 b3_1 i4 a4_3 b4_3 a4_2 b4_2 a4_1 b4_1
    simp (config := {maxSteps := 1000000}) only [a2_1, b2_1, a3_2, b3_2, a3_1, b3_1, a4_3, b4_3, a4_2, b4_2, a4_1, b4_1, q27, q26, q28, q29, h0, n1, bI_add, bI_sub, bI_quo, bI_rem, bI_mul, w1, resD, valD, eqEv, tb28_e, Int.natCast_nonneg, Nat.le_refl, Int.le_refl, List.take_succ_cons, List.take_zero, decide_true, decide_false, Bool.and_false, Bool.false_and, zz, zzN, zzF, fltEv, isArithF, ↓reduceIte, Nat.reduceEqDiff, Nat.reduceBEq, Int.reduceLT, Int.reduceLE, Int.reduceToNat, Int.reduceEq, Int.reduceAdd, Int.reduceSub, Int.reduceMul, Int.reduceNeg, Nat.reduceMul, Nat.reduceSub, Nat.reduceLeDiff, Nat.reduceLT, Int.reduceGT, Int.reduceBEq, Int.reduceBNe, reduceCtorEq, Nat.reduceAdd, Ins.map, Fr.ev, argFr, argE, binEv, intEv, shEv, strEv, unEv, Fr.mark, evRes, tup, lenD, lookupD, loadD, partD, storeD, cellsD, cellOk, setAt, objNe, objSame, eqEv, readEv, buildD, buildRows, rowsOf, elemsOf]
    intro i5 a5_4 b5_4 a5_3 b5_3 a5_2 b5_2 a5_1 b5_1
    simp (config := {maxSteps := 1000000}) only [a2_1, b2_1, a3_2, b3_2, a3_1, b3_1, a4_3, b4_3, a4_2, b4_2, a4_1, b4_1, a5_4, b5_4, a5_3, b5_3, a5_2, b5_2, a5_1, b5_1, q27, q26, q28, q29, h0, n1, w2, bI_add, bI_sub, bI_quo, bI_rem, bI_mul, w1, resD, valD, eqEv, tb28_e, Int.natCast_nonneg, Nat.le_refl, Int.le_refl, List.take_succ_cons, List.take_zero, decide_true, decide_false, Bool.and_false, Bool.false_and, zz, zzN, zzF, fltEv, isArithF, ↓reduceIte, Nat.reduceEqDiff, Nat.reduceBEq, Int.reduceLT, Int.reduceLE, Int.reduceToNat, Int.reduceEq, Int.reduceAdd, Int.reduceSub, Int.reduceMul, Int.reduceNeg, Nat.reduceMul, Nat.reduceSub, Nat.reduceLeDiff, Nat.reduceLT, Int.reduceGT, Int.reduceBEq, Int.reduceBNe, reduceCtorEq, Nat.reduceAdd, Ins.map, Fr.ev, argFr, argE, binEv, intEv, shEv, strEv, unEv, Fr.mark, evRes, tup, lenD, lookupD, loadD, partD, storeD, cellsD, cellOk, setAt, objNe, objSame, eqEv, readEv, buildD, buildRows, rowsOf, elemsOf]
    intro i6 a6_5 b6_5 a6_4 b6_4 a6_3 b6_3 a6_2 b6_2 a6_1 b6_1
    simp (config := {maxSteps := 1000000}) only [a2_1, b2_1, a3_2, b3_2, a3_1, b3_1, a4_3, b4_3, a4_2, b4_2, a4_1, b4_1, a5_4, b5_4, a5_3, b5_3, a5_2, b5_2, a5_1, b5_1, a6_5, b6_5, a6_4, b6_4, a6_3, b6_3, a6_2, b6_2, a6_1, b6_1, q27, q26, q28, q29, h0, n1, w2, bI_add, bI_sub, bI_quo, bI_rem, bI_mul, w1, resD, valD, eqEv, tb28_e, Int.natCast_nonneg, Nat.le_refl, Int.le_refl, List.take_succ_cons, List.take_zero, decide_true, decide_false, Bool.and_false, Bool.false_and, zz, zzN, zzF, fltEv, isArithF, ↓reduceIte, Nat.reduceEqDiff, Nat.reduceBEq, Int.reduceLT, Int.reduceLE, Int.reduceToNat, Int.reduceEq, Int.reduceAdd, Int.reduceSub, Int.reduceMul, Int.reduceNeg, Nat.reduceMul, Nat.reduceSub, Nat.reduceLeDiff, Nat.reduceLT, Int.reduceGT, Int.reduceBEq, Int.reduceBNe, reduceCtorEq, Nat.reduceAdd, Ins.map, Fr.ev, argFr, argE, binEv, intEv, shEv, strEv, unEv, Fr.mark, evRes, tup, lenD, lookupD, loadD, partD, storeD, cellsD, cellOk, setAt, objNe, objSame, eqEv, readEv, buildD, buildRows, rowsOf, elemsOf]
    split
    · trivial
    · rename_i h
      rcases sg with h1 | h1
      · exact absurd h1 h
      · exact .inl h1
theorem valLaws_d (a b : Int) (ha : (Lit.int .i64 a).wf = true) : PCall Try.prog 9 [.int .i64 a, .int .i64 b] (.bool true) := by
  refine valLaws_c a b ?_
  simp [Lit.wf, IntKind.min, IntKind.max, IntKind.bits, IntKind.signed] at ha
  omega
end Go.Proofs.Ytaimobfakcompaa.Zz
