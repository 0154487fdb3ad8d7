/- The law of values' edges. -/
import Derived.Test.YtaimobfakcompaaZV2
namespace Go.Proofs.Ytaimobfakcompaa.Zz
set_option linter.unusedVariables false
set_option linter.unusedSimpArgs false
set_option maxRecDepth 20000
def p11 : Plan := ⟨⟨[], [], [], [], [], []⟩, [(8, [0, 1, 2, 3, 4, 5, 6, 7, 8, 9, 10, 11, 12, 13, 14, 15, 16, 17, 18, 19, 20, 22, 21, 23, 24, 25, 26])]⟩
/-- cupel/cupellaw13.ValEdges (3 parameters, 0 captured) -/
def s11 : Stm :=
  .seq (.ops [⟨.mov (.c (.bool false)), (some 6), none, true⟩])
  (.seq (.ops [⟨.mov (.t 0), (some 14), none, true⟩,
     ⟨.qcall (.f 31) [(.t 14)], (some 15), none, false⟩,
     ⟨.mov (.t 15), (some 7), none, true⟩])
  (.seq (.ops [⟨.mov (.t 7), (some 16), none, true⟩,
     ⟨.qcall (.f 32) [(.t 16)], (some 17), none, false⟩,
     ⟨.alloc [(.int .i64 0), (.int .i64 0)], (some 8), none, false⟩,
     ⟨.store 2 (.t 8) (.t 17), none, none, false⟩])
  (.seq (.ops [⟨.qcall (.f 32) [(.c (.float .f64 0))], (some 18), none, false⟩,
     ⟨.qcall (.f 32) [(.c (.float .f64 0))], (some 19), none, false⟩,
     ⟨.qcall (.f 33) [(.c (.str [45])), (.t 19)], (some 20), none, false⟩,
     ⟨.alloc [(.int .i64 0), (.int .i64 0)], (some 9), none, false⟩,
     ⟨.alloc [(.int .i64 0), (.int .i64 0)], (some 10), none, false⟩,
     ⟨.store 2 (.t 9) (.t 18), none, none, false⟩,
     ⟨.store 2 (.t 10) (.t 20), none, none, false⟩])
  (.seq (.ops [⟨.load (some 2) (.t 9), (some 22), none, false⟩,
     ⟨.load (some 2) (.t 10), (some 23), none, false⟩,
     ⟨.qcall (.f 26) [(.c (.str [61, 61])), (.t 22), (.t 23)], (some 24), none, false⟩,
     ⟨.mov (.t 24), (some 21), none, true⟩,
     ⟨.extract (.t 21) 0, (some 25), none, true⟩,
     ⟨.extract (.t 21) 1, (some 26), none, true⟩,
     ⟨.alloc [(.int .i64 0), (.int .i64 0)], (some 11), none, false⟩,
     ⟨.store 2 (.t 11) (.t 25), none, none, false⟩,
     ⟨.mov (.t 26), (some 12), none, true⟩])
  (.seq (.ops [⟨.mov (.c (.int .i64 0)), (some 13), none, true⟩])
  (.seq (.seq (.ops [⟨.mov (.t 2), (some 27), none, true⟩])
   (.cond (.t 27)
    (.ops [⟨.mov (.c (.int .i64 1)), (some 13), none, true⟩])
    (.skip)))
  (.seq (.seq (.ops [⟨.mov (.t 7), (some 28), none, true⟩,
      ⟨.mov (.t 7), (some 29), none, true⟩,
      ⟨.bin .neq (.t 28) (.t 29), (some 30), none, true⟩,
      ⟨.mov (.t 30), (some 31), none, true⟩,
      ⟨.fieldAddr 1 (.t 8), (some 32), (some (31, true)), true⟩,
      ⟨.load none (.t 32), (some 33), (some (31, true)), false⟩,
      ⟨.qcall (.f 34) [], (some 34), (some (31, true)), false⟩,
      ⟨.bin .neq (.t 33) (.t 34), (some 35), (some (31, true)), true⟩,
      ⟨.pick (.t 31) (.t 35) (.c (.bool false)), (some 36), none, true⟩,
      ⟨.mov (.t 36), (some 37), none, true⟩,
      ⟨.mov (.t 7), (some 38), (some (37, false)), true⟩,
      ⟨.mov (.t 7), (some 39), (some (37, false)), true⟩,
      ⟨.bin .eql (.t 38) (.t 39), (some 40), (some (37, false)), true⟩,
      ⟨.mov (.t 40), (some 41), (some (37, false)), true⟩,
      ⟨.fieldAddr 1 (.t 8), (some 42), (some (41, true)), true⟩,
      ⟨.load none (.t 42), (some 43), (some (41, true)), false⟩,
      ⟨.conv (.intInt .u64) (.t 43), (some 44), (some (41, true)), true⟩,
      ⟨.mov (.t 0), (some 45), (some (41, true)), true⟩,
      ⟨.bin .neq (.t 44) (.t 45), (some 46), (some (41, true)), true⟩,
      ⟨.mov (.t 46), (some 47), (some (41, true)), true⟩,
      ⟨.load (some 2) (.t 8), (some 48), (some (47, false)), false⟩,
      ⟨.mov (.t 7), (some 50), (some (47, false)), true⟩,
      ⟨.qcall (.f 30) [(.t 48)], (some 49), (some (47, false)), false⟩,
      ⟨.bin .neq (.t 49) (.t 50), (some 51), (some (47, false)), true⟩,
      ⟨.pick (.t 47) (.c (.bool true)) (.t 51), (some 52), (some (41, true)), true⟩,
      ⟨.pick (.t 41) (.t 52) (.c (.bool false)), (some 53), (some (37, false)), true⟩,
      ⟨.pick (.t 37) (.c (.bool true)) (.t 53), (some 54), none, true⟩])
   (.cond (.t 54)
    (.seq (.ops [⟨.mov (.c (.bool false)), (some 6), none, true⟩])
     (.ret))
    (.skip)))
  (.seq (.ops [⟨.qcall (.f 28) [], (some 55), none, false⟩,
     ⟨.mov (.t 55), (some 56), none, true⟩,
     ⟨.fieldAddr 0 (.t 8), (some 57), (some (56, true)), true⟩,
     ⟨.load none (.t 57), (some 58), (some (56, true)), false⟩,
     ⟨.bin .eql (.t 58) (.c (.int .i64 2)), (some 59), (some (56, true)), true⟩,
     ⟨.pick (.t 56) (.t 59) (.c (.bool false)), (some 60), none, true⟩,
     ⟨.mov (.t 60), (some 61), none, true⟩,
     ⟨.load (some 2) (.t 11), (some 62), (some (61, true)), false⟩,
     ⟨.qcall (.f 29) [(.t 62)], (some 63), (some (61, true)), false⟩,
     ⟨.pick (.t 61) (.t 63) (.c (.bool false)), (some 64), none, true⟩,
     ⟨.mov (.t 64), (some 65), none, true⟩,
     ⟨.fieldAddr 1 (.t 9), (some 66), (some (65, true)), true⟩,
     ⟨.load none (.t 66), (some 67), (some (65, true)), false⟩,
     ⟨.fieldAddr 1 (.t 10), (some 68), (some (65, true)), true⟩,
     ⟨.load none (.t 68), (some 69), (some (65, true)), false⟩,
     ⟨.bin .neq (.t 67) (.t 69), (some 70), (some (65, true)), true⟩,
     ⟨.pick (.t 65) (.t 70) (.c (.bool false)), (some 71), none, true⟩,
     ⟨.mov (.t 71), (some 72), none, true⟩,
     ⟨.mov (.t 1), (some 73), (some (72, true)), true⟩,
     ⟨.qcall (.f 27) [(.t 73)], (some 74), (some (72, true)), false⟩,
     ⟨.mov (.t 1), (some 75), (some (72, true)), true⟩,
     ⟨.build [(.int .i64 0), (.int .i64 0)] [(0, 1, (.c (.int .i64 1))), (1, 1, (.t 75))], (some 76), (some (72, true)), true⟩,
     ⟨.qcall (.f 35) [(.t 74), (.t 76)], (some 77), (some (72, true)), false⟩,
     ⟨.pick (.t 72) (.t 77) (.c (.bool false)), (some 78), none, true⟩,
     ⟨.mov (.t 78), (some 79), none, true⟩,
     ⟨.mov (.t 2), (some 80), (some (79, true)), true⟩,
     ⟨.qcall (.f 36) [(.t 80)], (some 81), (some (79, true)), false⟩,
     ⟨.mov (.t 13), (some 82), (some (79, true)), true⟩,
     ⟨.build [(.int .i64 0), (.int .i64 0)] [(0, 1, (.c (.int .i64 3))), (1, 1, (.t 82))], (some 83), (some (79, true)), true⟩,
     ⟨.qcall (.f 35) [(.t 81), (.t 83)], (some 84), (some (79, true)), false⟩,
     ⟨.pick (.t 79) (.t 84) (.c (.bool false)), (some 85), none, true⟩,
     ⟨.mov (.t 85), (some 86), none, true⟩,
     ⟨.mov (.t 2), (some 87), (some (86, true)), true⟩,
     ⟨.qcall (.f 36) [(.t 87)], (some 88), (some (86, true)), false⟩,
     ⟨.qcall (.f 29) [(.t 88)], (some 89), (some (86, true)), false⟩,
     ⟨.mov (.t 2), (some 90), (some (86, true)), true⟩,
     ⟨.eql .bool false (.t 89) (.t 90), (some 91), (some (86, true)), true⟩,
     ⟨.pick (.t 86) (.t 91) (.c (.bool false)), (some 92), none, true⟩,
     ⟨.mov (.t 92), (some 93), none, true⟩,
     ⟨.mov (.t 1), (some 94), (some (93, true)), true⟩,
     ⟨.qcall (.f 27) [(.t 94)], (some 95), (some (93, true)), false⟩,
     ⟨.qcall (.f 29) [(.t 95)], (some 96), (some (93, true)), false⟩,
     ⟨.un .not (.t 96), (some 97), (some (93, true)), true⟩,
     ⟨.pick (.t 93) (.t 97) (.c (.bool false)), (some 98), none, true⟩,
     ⟨.mov (.t 98), (some 99), none, true⟩,
     ⟨.qcall (.f 37) [(.c (.int .i64 2))], (some 100), (some (99, true)), false⟩,
     ⟨.build [(.int .i64 0), (.int .i64 0)] [(0, 1, (.c (.int .i64 2)))], (some 101), (some (99, true)), true⟩,
     ⟨.qcall (.f 35) [(.t 100), (.t 101)], (some 102), (some (99, true)), false⟩,
     ⟨.pick (.t 99) (.t 102) (.c (.bool false)), (some 103), none, true⟩,
     ⟨.mov (.t 103), (some 6), none, true⟩])
  (.ret)))))))))
theorem st11 : stmOf Try.prog 11 p11 = some (s11, [.tmp 6], 104) := by kernel_rfl

theorem bF_zz : binK (sgnOf [61, 61]) 2 0 2 (-9223372036854775808) = ((3, 1), 0) := by decide +kernel
theorem nan_wrap : IntKind.i64.wrap (nanB : Int) = 9221120237041090561 := by decide +kernel
theorem true1 (n : Int) : trueV 1 n = false := rfl
theorem order_self (b : Nat) : (FloatKind.f64.format.order b b == some .eq) = true ∨ FloatKind.f64.format.order b b = none := by
  unfold Ieee.Format.order
  cases FloatKind.f64.format.read b with
  | nan s t => exact .inr rfl
  | infinity s => left; cases s <;> rfl
  | number s m i => left; simp [Ieee.Datum.order, Std.ReflCmp.compare_self]
set_option maxHeartbeats 1000000 in
theorem valEdges_c (bits n : Int) (b : Bool) (hb : 0 ≤ bits ∧ bits ≤ 18446744073709551615) : PCall Try.prog 11 [.int .u64 bits, .int .i64 n, .bool b] (.bool true) := by
  refine PCall.run tb28_ok st11 (by simp) fun E => ?_
  have b2 : IntKind.u64.wrap (IntKind.i64.wrap (bits.toNat : Int)) = bits := by
    obtain ⟨k, h1, h2, h3⟩ := wrap_ex (bits.toNat : Int)
    rw [wrap_u64_mod]; omega
  have b1 : bitsOf (IntKind.i64.wrap (bits.toNat : Int)) = bits.toNat := by unfold bitsOf; rw [b2]
  have n1 : (bits != bits) = false := by simp
  have n2 : (n == n) = true := by simp
  simp (config := {maxSteps := 1000000}) only [s11, xFrom, q32, q33, q26, q29, q30, q34, q35, q36, q37, q27, q28, fl0, un0, bF_zz, tr1, true1, resD, valD, eqEv, tb28_e, Int.natCast_nonneg, Nat.le_refl, Int.le_refl, List.take_succ_cons, List.take_zero, decide_true, decide_false, Bool.and_false, Bool.false_and, zz, zzN, zzF, fltEv, isArithF, ↓reduceIte, Nat.reduceEqDiff, Nat.reduceBEq, Int.reduceLT, Int.reduceLE, Int.reduceToNat, Int.reduceEq, Int.reduceAdd, Int.reduceSub, Int.reduceMul, Int.reduceNeg, Nat.reduceMul, Nat.reduceSub, Nat.reduceLeDiff, Nat.reduceLT, Int.reduceGT, Int.reduceBEq, Int.reduceBNe, reduceCtorEq, Nat.reduceAdd, Ins.map, Fr.ev, argFr, argE, binEv, intEv, shEv, strEv, unEv, Fr.mark, evRes, tup, lenD, lookupD, loadD, partD, storeD, cellsD, cellOk, setAt, objNe, objSame, eqEv, readEv, buildD, buildRows, rowsOf, elemsOf]
  intro i1  i2 a2_1 b2_1 i3 a3_2 b3_2 a3_1 b3_1
  simp (config := {maxSteps := 1000000}) only [a2_1, b2_1, a3_2, b3_2, a3_1, b3_1, xFrom, q32, q33, q26, q29, q30, q34, q35, q36, q37, q27, q28, fl0, un0, bF_zz, tr1, true1, resD, valD, eqEv, tb28_e, Int.natCast_nonneg, Nat.le_refl, Int.le_refl, List.take_succ_cons, List.take_zero, decide_true, decide_false, Bool.and_false, Bool.false_and, zz, zzN, zzF, fltEv, isArithF, ↓reduceIte, Nat.reduceEqDiff, Nat.reduceBEq, Int.reduceLT, Int.reduceLE, Int.reduceToNat, Int.reduceEq, Int.reduceAdd, Int.reduceSub, Int.reduceMul, Int.reduceNeg, Nat.reduceMul, Nat.reduceSub, Nat.reduceLeDiff, Nat.reduceLT, Int.reduceGT, Int.reduceBEq, Int.reduceBNe, reduceCtorEq, Nat.reduceAdd, Ins.map, Fr.ev, argFr, argE, binEv, intEv, shEv, strEv, unEv, Fr.mark, evRes, tup, lenD, lookupD, loadD, partD, storeD, cellsD, cellOk, setAt, objNe, objSame, eqEv, readEv, buildD, buildRows, rowsOf, elemsOf]
  intro i4 a4_3 b4_3 a4_2 b4_2 a4_1 b4_1
  intro c1 c2 c3 c4
  cases h1 : (FloatKind.f64.format.order bits.toNat bits.toNat == some .eq) with
  | true =>
    have h2 : (FloatKind.f64.format.order bits.toNat bits.toNat != some .eq) = false := by rw [bne, h1]; rfl
    have h3 : canon bits.toNat = bits.toNat := by unfold canon; rw [h1]; rfl
    cases b <;>
    simp (config := {maxSteps := 1000000}) only [h1, h2, h3, b1, b2, n1, n2, a2_1, b2_1, a3_2, b3_2, a3_1, b3_1, a4_3, b4_3, a4_2, b4_2, a4_1, b4_1, c1, c2, c3, c4, xFrom, q32, q33, q26, q29, q30, q34, q35, q36, q37, q27, q28, fl0, un0, bF_zz, tr0, tr1, true1, boolN, resD, valD, eqEv, tb28_e, Int.natCast_nonneg, Nat.le_refl, Int.le_refl, List.take_succ_cons, List.take_zero, decide_true, decide_false, Bool.and_false, Bool.false_and, zz, zzN, zzF, fltEv, isArithF, ↓reduceIte, Nat.reduceEqDiff, Nat.reduceBEq, Int.reduceLT, Int.reduceLE, Int.reduceToNat, Int.reduceEq, Int.reduceAdd, Int.reduceSub, Int.reduceMul, Int.reduceNeg, Nat.reduceMul, Nat.reduceSub, Nat.reduceLeDiff, Nat.reduceLT, Int.reduceGT, Int.reduceBEq, Int.reduceBNe, reduceCtorEq, Nat.reduceAdd, Ins.map, Fr.ev, argFr, argE, binEv, intEv, shEv, strEv, unEv, Fr.mark, evRes, tup, lenD, lookupD, loadD, partD, storeD, cellsD, cellOk, setAt, objNe, objSame, eqEv, readEv, buildD, buildRows, rowsOf, elemsOf]
  | false =>
    have h2 : (FloatKind.f64.format.order bits.toNat bits.toNat != some .eq) = true := by rw [bne, h1]; rfl
    have h3 : canon bits.toNat = nanB := by unfold canon; rw [h1]; rfl
    cases b <;>
    simp (config := {maxSteps := 1000000}) only [h1, h2, h3, nan_wrap, n1, n2, a2_1, b2_1, a3_2, b3_2, a3_1, b3_1, a4_3, b4_3, a4_2, b4_2, a4_1, b4_1, c1, c2, c3, c4, xFrom, q32, q33, q26, q29, q30, q34, q35, q36, q37, q27, q28, fl0, un0, bF_zz, tr0, tr1, true1, boolN, resD, valD, eqEv, tb28_e, Int.natCast_nonneg, Nat.le_refl, Int.le_refl, List.take_succ_cons, List.take_zero, decide_true, decide_false, Bool.and_false, Bool.false_and, zz, zzN, zzF, fltEv, isArithF, ↓reduceIte, Nat.reduceEqDiff, Nat.reduceBEq, Int.reduceLT, Int.reduceLE, Int.reduceToNat, Int.reduceEq, Int.reduceAdd, Int.reduceSub, Int.reduceMul, Int.reduceNeg, Nat.reduceMul, Nat.reduceSub, Nat.reduceLeDiff, Nat.reduceLT, Int.reduceGT, Int.reduceBEq, Int.reduceBNe, reduceCtorEq, Nat.reduceAdd, Ins.map, Fr.ev, argFr, argE, binEv, intEv, shEv, strEv, unEv, Fr.mark, evRes, tup, lenD, lookupD, loadD, partD, storeD, cellsD, cellOk, setAt, objNe, objSame, eqEv, readEv, buildD, buildRows, rowsOf, elemsOf]
theorem valEdges_d (bits n : Int) (b : Bool) (h : (Lit.int .u64 bits).wf = true) : PCall Try.prog 11 [.int .u64 bits, .int .i64 n, .bool b] (.bool true) := by
  refine valEdges_c bits n b ?_
  simp [Lit.wf, IntKind.min, IntKind.max, IntKind.bits, IntKind.signed] at h
  omega
end Go.Proofs.Ytaimobfakcompaa.Zz
