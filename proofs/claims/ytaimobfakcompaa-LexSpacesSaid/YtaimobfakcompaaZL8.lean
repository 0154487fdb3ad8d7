/- The law of points. -/
import Derived.Test.YtaimobfakcompaaZL7
namespace Go.Proofs.Ytaimobfakcompaa.Zz
set_option linter.unusedVariables false
set_option linter.unusedSimpArgs false
set_option maxRecDepth 20000
def p8 : Plan := ⟨⟨[], [], [], [], [], []⟩, []⟩
/-- cupel/cupellaw09.LexPoints (2 parameters, 0 captured) -/
def s8 : Stm :=
  .seq (.ops [⟨.mov (.c (.bool false)), (some 4), none, true⟩])
  (.seq (.ops [⟨.mov (.t 0), (some 14), none, true⟩,
     ⟨.bin .and (.t 14) (.c (.int .i64 15)), (some 15), none, true⟩,
     ⟨.mov (.t 1), (some 16), none, true⟩,
     ⟨.bin .and (.t 16) (.c (.int .i64 15)), (some 17), none, true⟩,
     ⟨.mov (.t 15), (some 5), none, true⟩,
     ⟨.mov (.t 17), (some 6), none, true⟩])
  (.seq (.ops [⟨.mov (.c (.str [])), (some 7), none, true⟩])
  (.seq (.seq (.ops [⟨.mov (.c (.int .i64 0)), (some 8), none, true⟩])
   (.block 0 (.loop (.seq (.seq (.ops [⟨.mov (.t 8), (some 18), none, true⟩,
         ⟨.mov (.t 5), (some 19), none, true⟩,
         ⟨.bin .lss (.t 18) (.t 19), (some 20), none, true⟩])
      (.cond (.t 20)
       (.skip)
       (.exit 0)))
     (.seq (.block 1 (.ops [⟨.mov (.t 7), (some 23), none, true⟩,
         ⟨.bin .add (.t 23) (.c (.str [55])), (some 24), none, true⟩,
         ⟨.mov (.t 24), (some 7), none, true⟩]))
     (.ops [⟨.mov (.t 8), (some 21), none, true⟩,
       ⟨.bin .add (.t 21) (.c (.int .i64 1)), (some 22), none, true⟩,
       ⟨.mov (.t 22), (some 8), none, true⟩]))))))
  (.seq (.ops [⟨.mov (.t 7), (some 25), none, true⟩,
     ⟨.bin .add (.t 25) (.c (.str [46])), (some 26), none, true⟩,
     ⟨.mov (.t 26), (some 7), none, true⟩])
  (.seq (.seq (.ops [⟨.mov (.c (.int .i64 0)), (some 9), none, true⟩])
   (.block 2 (.loop (.seq (.seq (.ops [⟨.mov (.t 9), (some 27), none, true⟩,
         ⟨.mov (.t 6), (some 28), none, true⟩,
         ⟨.bin .lss (.t 27) (.t 28), (some 29), none, true⟩])
      (.cond (.t 29)
       (.skip)
       (.exit 2)))
     (.seq (.block 3 (.ops [⟨.mov (.t 7), (some 32), none, true⟩,
         ⟨.bin .add (.t 32) (.c (.str [48])), (some 33), none, true⟩,
         ⟨.mov (.t 33), (some 7), none, true⟩]))
     (.ops [⟨.mov (.t 9), (some 30), none, true⟩,
       ⟨.bin .add (.t 30) (.c (.int .i64 1)), (some 31), none, true⟩,
       ⟨.mov (.t 31), (some 9), none, true⟩]))))))
  (.seq (.ops [⟨.mov (.t 7), (some 35), none, true⟩,
     ⟨.qcall (.f 23) [(.t 35)], (some 36), none, false⟩,
     ⟨.mov (.t 36), (some 34), none, true⟩,
     ⟨.extract (.t 34) 0, (some 37), none, true⟩,
     ⟨.extract (.t 34) 1, (some 38), none, true⟩,
     ⟨.extract (.t 34) 2, (some 39), none, true⟩,
     ⟨.mov (.t 37), (some 10), none, true⟩,
     ⟨.mov (.t 38), (some 11), none, true⟩,
     ⟨.mov (.t 39), (some 12), none, true⟩])
  (.seq (.ops [⟨.mov (.t 5), (some 40), none, true⟩,
     ⟨.bin .gtr (.t 40) (.c (.int .i64 0)), (some 41), none, true⟩,
     ⟨.mov (.t 41), (some 42), none, true⟩,
     ⟨.mov (.t 6), (some 43), (some (42, true)), true⟩,
     ⟨.bin .gtr (.t 43) (.c (.int .i64 0)), (some 44), (some (42, true)), true⟩,
     ⟨.pick (.t 42) (.t 44) (.c (.bool false)), (some 45), none, true⟩,
     ⟨.mov (.t 45), (some 46), none, true⟩,
     ⟨.mov (.t 5), (some 47), (some (46, true)), true⟩,
     ⟨.mov (.t 6), (some 48), (some (46, true)), true⟩,
     ⟨.bin .add (.t 47) (.t 48), (some 49), (some (46, true)), true⟩,
     ⟨.bin .leq (.t 49) (.c (.int .i64 15)), (some 50), (some (46, true)), true⟩,
     ⟨.pick (.t 46) (.t 50) (.c (.bool false)), (some 51), none, true⟩,
     ⟨.mov (.t 51), (some 13), none, true⟩])
  (.seq (.ops [⟨.qcall (.f 25) [], (some 52), none, false⟩,
     ⟨.mov (.t 52), (some 53), none, true⟩,
     ⟨.mov (.t 12), (some 54), (some (53, true)), true⟩,
     ⟨.bin .eql (.t 54) (.c (.int .i64 0)), (some 55), (some (53, true)), true⟩,
     ⟨.mov (.t 13), (some 56), (some (53, true)), true⟩,
     ⟨.eql .bool false (.t 55) (.t 56), (some 57), (some (53, true)), true⟩,
     ⟨.pick (.t 53) (.t 57) (.c (.bool false)), (some 58), none, true⟩,
     ⟨.mov (.t 58), (some 59), none, true⟩,
     ⟨.mov (.t 13), (some 60), (some (59, true)), true⟩,
     ⟨.un .not (.t 60), (some 61), (some (59, true)), true⟩,
     ⟨.mov (.t 61), (some 62), (some (59, true)), true⟩,
     ⟨.mov (.t 10), (some 63), (some (62, false)), true⟩,
     ⟨.len .sl (.t 63), (some 64), (some (62, false)), false⟩,
     ⟨.bin .eql (.t 64) (.c (.int .i64 2)), (some 65), (some (62, false)), true⟩,
     ⟨.mov (.t 65), (some 66), (some (62, false)), true⟩,
     ⟨.mov (.t 10), (some 67), (some (66, true)), true⟩,
     ⟨.indexAddrS 3 (.t 67) (.c (.int .i64 0)), (some 68), (some (66, true)), false⟩,
     ⟨.fieldAddr 0 (.t 68), (some 69), (some (66, true)), true⟩,
     ⟨.load none (.t 69), (some 70), (some (66, true)), false⟩,
     ⟨.bin .eql (.t 70) (.c (.int .i64 3)), (some 71), (some (66, true)), true⟩,
     ⟨.pick (.t 66) (.t 71) (.c (.bool false)), (some 72), (some (62, false)), true⟩,
     ⟨.mov (.t 72), (some 73), (some (62, false)), true⟩,
     ⟨.mov (.t 10), (some 74), (some (73, true)), true⟩,
     ⟨.indexAddrS 3 (.t 74) (.c (.int .i64 0)), (some 75), (some (73, true)), false⟩,
     ⟨.fieldAddr 1 (.t 75), (some 76), (some (73, true)), true⟩,
     ⟨.load none (.t 76), (some 77), (some (73, true)), false⟩,
     ⟨.mov (.t 7), (some 78), (some (73, true)), true⟩,
     ⟨.bin .eql (.t 77) (.t 78), (some 79), (some (73, true)), true⟩,
     ⟨.pick (.t 73) (.t 79) (.c (.bool false)), (some 80), (some (62, false)), true⟩,
     ⟨.pick (.t 62) (.c (.bool true)) (.t 80), (some 81), (some (59, true)), true⟩,
     ⟨.pick (.t 59) (.t 81) (.c (.bool false)), (some 82), none, true⟩,
     ⟨.mov (.t 82), (some 83), none, true⟩,
     ⟨.mov (.t 13), (some 84), (some (83, true)), true⟩,
     ⟨.mov (.t 84), (some 85), (some (83, true)), true⟩,
     ⟨.mov (.t 12), (some 86), (some (85, false)), true⟩,
     ⟨.bin .eql (.t 86) (.c (.int .i64 90)), (some 87), (some (85, false)), true⟩,
     ⟨.mov (.t 87), (some 88), (some (85, false)), true⟩,
     ⟨.mov (.t 11), (some 89), (some (88, true)), true⟩,
     ⟨.bin .eql (.t 89) (.c (.int .i64 0)), (some 90), (some (88, true)), true⟩,
     ⟨.pick (.t 88) (.t 90) (.c (.bool false)), (some 91), (some (85, false)), true⟩,
     ⟨.pick (.t 85) (.c (.bool true)) (.t 91), (some 92), (some (83, true)), true⟩,
     ⟨.pick (.t 83) (.t 92) (.c (.bool false)), (some 93), none, true⟩,
     ⟨.mov (.t 93), (some 4), none, true⟩])
  (.ret)))))))))
theorem st8 : stmOf Try.prog 8 p8 = some (s8, [.tmp 4], 94) := by kernel_rfl

def pts (n m : Nat) : List UInt8 := List.replicate n 55 ++ [46] ++ List.replicate m 48
theorem pts_tok' : ∀ n m : Fin 16, tokens (pts n.1 m.1) = if (decide (0 < n.1) && decide (0 < m.1) && decide (n.1 + m.1 ≤ 15)) = true then ([(3, pts n.1 m.1, 0), (0, [], ((n.1 + 1 + m.1 : Nat) : Int))], 0, 0) else ([], 0, 90) := by decide +kernel
theorem pts_tok (n : Nat) (h1 : n < 16) (m : Nat) (h2 : m < 16) : tokens (pts n m) = if (decide (0 < n) && decide (0 < m) && decide (n + m ≤ 15)) = true then ([(3, pts n m, 0), (0, [], ((n + 1 + m : Nat) : Int))], 0, 0) else ([], 0, 90) := pts_tok' ⟨n, h1⟩ ⟨m, h2⟩
theorem and15 (x : Int) : ∃ n : Nat, IntKind.i64.wrap ((BitVec.ofInt IntKind.i64.bits x &&& BitVec.ofInt IntKind.i64.bits 15).toNat : Int) = (n : Int) ∧ n < 16 := by
  have : (BitVec.ofInt IntKind.i64.bits x &&& BitVec.ofInt IntKind.i64.bits 15).toNat ≤ 15 := by
    rw [BitVec.toNat_and]
    exact Nat.and_le_right
  exact ⟨_, wrap_nat (by omega), by omega⟩
set_option maxHeartbeats 2000000 in
theorem lexPoints_c (a b : Int) : PCall Try.prog 8 [.int .i64 a, .int .i64 b] (.bool true) := by
  refine PCall.run tb39_ok st8 (by simp) fun E => ?_
  obtain ⟨n, hn, hn2⟩ := and15 a
  obtain ⟨m, hm, hm2⟩ := and15 b
  simp (config := {maxSteps := 1000000}) only [s8, hn, hm, tb39_e, Int.natCast_nonneg, Nat.le_refl, Int.le_refl, List.take_succ_cons, List.take_zero, decide_true, decide_false, Bool.and_false, Bool.false_and, zz, zzN, ↓reduceIte, Nat.reduceEqDiff, Nat.reduceBEq, Int.reduceLT, Int.reduceLE, Int.reduceToNat, Int.reduceEq, Int.reduceAdd, Int.reduceSub, Int.reduceMul, Int.reduceNeg, Nat.reduceMul, Nat.reduceSub, Nat.reduceLeDiff, Nat.reduceLT, Int.reduceGT, Int.reduceBEq, Int.reduceBNe, reduceCtorEq, Nat.reduceAdd, Ins.map, Fr.ev, argFr, argE, binEv, intEv, shEv, strEv, unEv, Fr.mark, evRes, tup, lenD, lookupD, loadD, partD, storeD, cellsD, cellOk, setAt, objNe, objSame, eqEv, readEv, buildD, buildRows, rowsOf, elemsOf]
  refine run_loop (X := Nat) (fun i => [(5, .int .i64 n), (6, .int .i64 m), (7, .str (List.replicate i 55)), (8, .int .i64 i)]) (fun _ => .emp) (fun i => n - i) (fun i => i ≤ n) 0 (by simp) ?_ (AHeap.sub_refl _) ?_
  · simp only [Int.natCast_nonneg, Nat.le_refl, Int.le_refl, List.take_succ_cons, List.take_zero, decide_true, decide_false, Bool.and_false, Bool.false_and, zz, zzN, ↓reduceIte, Nat.reduceEqDiff, Nat.reduceBEq, Int.reduceLT, Int.reduceLE, Int.reduceToNat, Int.reduceEq, Int.reduceAdd, Int.reduceSub, Int.reduceMul, Int.reduceNeg, Nat.reduceMul, Nat.reduceSub, Nat.reduceLeDiff, Nat.reduceLT, Int.reduceGT, Int.reduceBEq, Int.reduceBNe, reduceCtorEq, Nat.reduceAdd, Ins.map, Fr.ev, argFr, argE, binEv, intEv, shEv, strEv, unEv, Fr.mark, evRes, tup, lenD, lookupD, loadD, partD, storeD, cellsD, cellOk, setAt, objNe, objSame, eqEv, readEv, buildD, buildRows, rowsOf, elemsOf]
  intro i Q hi hQ
  have wi : IntKind.i64.wrap ((i : Int) + 1) = ((i + 1 : Nat) : Int) := wrap_succ (by omega)
  by_cases c1 : i < n
  · have g1 : ((i : Int) < (n : Int)) = True := by simp; omega
    simp only [g1, wi, strEv, List.length_replicate, tb39_e, Int.natCast_nonneg, Nat.le_refl, Int.le_refl, List.take_succ_cons, List.take_zero, decide_true, decide_false, Bool.and_false, Bool.false_and, zz, zzN, ↓reduceIte, Nat.reduceEqDiff, Nat.reduceBEq, Int.reduceLT, Int.reduceLE, Int.reduceToNat, Int.reduceEq, Int.reduceAdd, Int.reduceSub, Int.reduceMul, Int.reduceNeg, Nat.reduceMul, Nat.reduceSub, Nat.reduceLeDiff, Nat.reduceLT, Int.reduceGT, Int.reduceBEq, Int.reduceBNe, reduceCtorEq, Nat.reduceAdd, Ins.map, Fr.ev, argFr, argE, binEv, intEv, shEv, strEv, unEv, Fr.mark, evRes, tup, lenD, lookupD, loadD, partD, storeD, cellsD, cellOk, setAt, objNe, objSame, eqEv, readEv, buildD, buildRows, rowsOf, elemsOf]
    repeat (first | intro _ | refine And.intro (by omega) ?_)
    refine hQ (i + 1) _ _ (by omega) ?_ (AHeap.sub_refl _) (by omega)
    simp only [List.replicate_succ', Int.natCast_nonneg, Nat.le_refl, Int.le_refl, List.take_succ_cons, List.take_zero, decide_true, decide_false, Bool.and_false, Bool.false_and, zz, zzN, ↓reduceIte, Nat.reduceEqDiff, Nat.reduceBEq, Int.reduceLT, Int.reduceLE, Int.reduceToNat, Int.reduceEq, Int.reduceAdd, Int.reduceSub, Int.reduceMul, Int.reduceNeg, Nat.reduceMul, Nat.reduceSub, Nat.reduceLeDiff, Nat.reduceLT, Int.reduceGT, Int.reduceBEq, Int.reduceBNe, reduceCtorEq, Nat.reduceAdd, Ins.map, Fr.ev, argFr, argE, binEv, intEv, shEv, strEv, unEv, Fr.mark, evRes, tup, lenD, lookupD, loadD, partD, storeD, cellsD, cellOk, setAt, objNe, objSame, eqEv, readEv, buildD, buildRows, rowsOf, elemsOf]
  have g1 : ((i : Int) < (n : Int)) = False := by simp; omega
  have hin : i = n := by omega
  subst hin
  simp (config := {maxSteps := 1000000}) only [g1, strEv, List.length_replicate, tb39_e, Int.natCast_nonneg, Nat.le_refl, Int.le_refl, List.take_succ_cons, List.take_zero, decide_true, decide_false, Bool.and_false, Bool.false_and, zz, zzN, ↓reduceIte, Nat.reduceEqDiff, Nat.reduceBEq, Int.reduceLT, Int.reduceLE, Int.reduceToNat, Int.reduceEq, Int.reduceAdd, Int.reduceSub, Int.reduceMul, Int.reduceNeg, Nat.reduceMul, Nat.reduceSub, Nat.reduceLeDiff, Nat.reduceLT, Int.reduceGT, Int.reduceBEq, Int.reduceBNe, reduceCtorEq, Nat.reduceAdd, Ins.map, Fr.ev, argFr, argE, binEv, intEv, shEv, strEv, unEv, Fr.mark, evRes, tup, lenD, lookupD, loadD, partD, storeD, cellsD, cellOk, setAt, objNe, objSame, eqEv, readEv, buildD, buildRows, rowsOf, elemsOf]
  repeat (first | intro _ | refine And.intro (by omega) ?_)
  refine run_loop (X := Nat) (fun j => [(5, .int .i64 i), (6, .int .i64 m), (7, .str (List.replicate i 55 ++ [46] ++ List.replicate j 48)), (9, .int .i64 j)]) (fun _ => .emp) (fun j => m - j) (fun j => j ≤ m) 0 (by simp) ?_ (AHeap.sub_refl _) ?_
  · simp only [Int.natCast_nonneg, Nat.le_refl, Int.le_refl, List.take_succ_cons, List.take_zero, decide_true, decide_false, Bool.and_false, Bool.false_and, zz, zzN, ↓reduceIte, Nat.reduceEqDiff, Nat.reduceBEq, Int.reduceLT, Int.reduceLE, Int.reduceToNat, Int.reduceEq, Int.reduceAdd, Int.reduceSub, Int.reduceMul, Int.reduceNeg, Nat.reduceMul, Nat.reduceSub, Nat.reduceLeDiff, Nat.reduceLT, Int.reduceGT, Int.reduceBEq, Int.reduceBNe, reduceCtorEq, Nat.reduceAdd, Ins.map, Fr.ev, argFr, argE, binEv, intEv, shEv, strEv, unEv, Fr.mark, evRes, tup, lenD, lookupD, loadD, partD, storeD, cellsD, cellOk, setAt, objNe, objSame, eqEv, readEv, buildD, buildRows, rowsOf, elemsOf]
  intro j Q2 hj hQ2
  have wj : IntKind.i64.wrap ((j : Int) + 1) = ((j + 1 : Nat) : Int) := wrap_succ (by omega)
  by_cases c2 : j < m
  · have g2 : ((j : Int) < (m : Int)) = True := by simp; omega
    have lp : (List.replicate i (55 : UInt8) ++ [46] ++ List.replicate j 48).length = i + 1 + j := by simp; omega
    simp only [g2, wj, lp, strEv, List.length_replicate, tb39_e, Int.natCast_nonneg, Nat.le_refl, Int.le_refl, List.take_succ_cons, List.take_zero, decide_true, decide_false, Bool.and_false, Bool.false_and, zz, zzN, ↓reduceIte, Nat.reduceEqDiff, Nat.reduceBEq, Int.reduceLT, Int.reduceLE, Int.reduceToNat, Int.reduceEq, Int.reduceAdd, Int.reduceSub, Int.reduceMul, Int.reduceNeg, Nat.reduceMul, Nat.reduceSub, Nat.reduceLeDiff, Nat.reduceLT, Int.reduceGT, Int.reduceBEq, Int.reduceBNe, reduceCtorEq, Nat.reduceAdd, Ins.map, Fr.ev, argFr, argE, binEv, intEv, shEv, strEv, unEv, Fr.mark, evRes, tup, lenD, lookupD, loadD, partD, storeD, cellsD, cellOk, setAt, objNe, objSame, eqEv, readEv, buildD, buildRows, rowsOf, elemsOf]
    repeat (first | intro _ | refine And.intro (by omega) ?_)
    refine hQ2 (j + 1) _ _ (by omega) ?_ (AHeap.sub_refl _) (by omega)
    simp only [List.replicate_succ', List.append_assoc, Int.natCast_nonneg, Nat.le_refl, Int.le_refl, List.take_succ_cons, List.take_zero, decide_true, decide_false, Bool.and_false, Bool.false_and, zz, zzN, ↓reduceIte, Nat.reduceEqDiff, Nat.reduceBEq, Int.reduceLT, Int.reduceLE, Int.reduceToNat, Int.reduceEq, Int.reduceAdd, Int.reduceSub, Int.reduceMul, Int.reduceNeg, Nat.reduceMul, Nat.reduceSub, Nat.reduceLeDiff, Nat.reduceLT, Int.reduceGT, Int.reduceBEq, Int.reduceBNe, reduceCtorEq, Nat.reduceAdd, Ins.map, Fr.ev, argFr, argE, binEv, intEv, shEv, strEv, unEv, Fr.mark, evRes, tup, lenD, lookupD, loadD, partD, storeD, cellsD, cellOk, setAt, objNe, objSame, eqEv, readEv, buildD, buildRows, rowsOf, elemsOf]
  have g2 : ((j : Int) < (m : Int)) = False := by simp; omega
  have hjm : j = m := by omega
  subst hjm
  have ht := pts_tok i hn2 j hm2
  rw [show List.replicate i 55 ++ [46] ++ List.replicate j 48 = pts i j from rfl]
  have wij : IntKind.i64.wrap ((i : Int) + (j : Int)) = ((i + j : Nat) : Int) := wrap_add (by omega)
  by_cases k1 : 0 < i
  · have g3 : ((i : Int) > 0) = True := by simp; omega
    by_cases k2 : 0 < j
    · have g4 : ((j : Int) > 0) = True := by simp; omega
      by_cases k3 : i + j ≤ 15
      · have g5 : (((i + j : Nat) : Int) ≤ 15) = True := by simp; omega
        simp only [k1, k2, k3, decide_true, Bool.and_self, if_true] at ht
        simp (config := {maxSteps := 1000000}) only [g2, g3, g4, g5, wij, ht, q23, q25, encT, tokD, askE, tb39_e, Int.natCast_nonneg, Nat.le_refl, Int.le_refl, List.take_succ_cons, List.take_zero, decide_true, decide_false, Bool.and_false, Bool.false_and, zz, zzN, ↓reduceIte, Nat.reduceEqDiff, Nat.reduceBEq, Int.reduceLT, Int.reduceLE, Int.reduceToNat, Int.reduceEq, Int.reduceAdd, Int.reduceSub, Int.reduceMul, Int.reduceNeg, Nat.reduceMul, Nat.reduceSub, Nat.reduceLeDiff, Nat.reduceLT, Int.reduceGT, Int.reduceBEq, Int.reduceBNe, reduceCtorEq, Nat.reduceAdd, Ins.map, Fr.ev, argFr, argE, binEv, intEv, shEv, strEv, unEv, Fr.mark, evRes, tup, lenD, lookupD, loadD, partD, storeD, cellsD, cellOk, setAt, objNe, objSame, eqEv, readEv, buildD, buildRows, rowsOf, elemsOf]
      · have g5 : (((i + j : Nat) : Int) ≤ 15) = False := by simp; omega
        simp only [k1, k2, k3, decide_true, decide_false, Bool.and_false, Bool.false_eq_true, if_false] at ht
        simp (config := {maxSteps := 1000000}) only [g2, g3, g4, g5, wij, ht, q23, q25, encT, tokD, askE, tb39_e, Int.natCast_nonneg, Nat.le_refl, Int.le_refl, List.take_succ_cons, List.take_zero, decide_true, decide_false, Bool.and_false, Bool.false_and, zz, zzN, ↓reduceIte, Nat.reduceEqDiff, Nat.reduceBEq, Int.reduceLT, Int.reduceLE, Int.reduceToNat, Int.reduceEq, Int.reduceAdd, Int.reduceSub, Int.reduceMul, Int.reduceNeg, Nat.reduceMul, Nat.reduceSub, Nat.reduceLeDiff, Nat.reduceLT, Int.reduceGT, Int.reduceBEq, Int.reduceBNe, reduceCtorEq, Nat.reduceAdd, Ins.map, Fr.ev, argFr, argE, binEv, intEv, shEv, strEv, unEv, Fr.mark, evRes, tup, lenD, lookupD, loadD, partD, storeD, cellsD, cellOk, setAt, objNe, objSame, eqEv, readEv, buildD, buildRows, rowsOf, elemsOf]
    · have g4 : ((j : Int) > 0) = False := by simp; omega
      simp only [k1, k2, decide_true, decide_false, Bool.and_false, Bool.false_and, Bool.false_eq_true, if_false] at ht
      simp (config := {maxSteps := 1000000}) only [g2, g3, g4, wij, ht, q23, q25, encT, tokD, askE, tb39_e, Int.natCast_nonneg, Nat.le_refl, Int.le_refl, List.take_succ_cons, List.take_zero, decide_true, decide_false, Bool.and_false, Bool.false_and, zz, zzN, ↓reduceIte, Nat.reduceEqDiff, Nat.reduceBEq, Int.reduceLT, Int.reduceLE, Int.reduceToNat, Int.reduceEq, Int.reduceAdd, Int.reduceSub, Int.reduceMul, Int.reduceNeg, Nat.reduceMul, Nat.reduceSub, Nat.reduceLeDiff, Nat.reduceLT, Int.reduceGT, Int.reduceBEq, Int.reduceBNe, reduceCtorEq, Nat.reduceAdd, Ins.map, Fr.ev, argFr, argE, binEv, intEv, shEv, strEv, unEv, Fr.mark, evRes, tup, lenD, lookupD, loadD, partD, storeD, cellsD, cellOk, setAt, objNe, objSame, eqEv, readEv, buildD, buildRows, rowsOf, elemsOf]
  · have g3 : ((i : Int) > 0) = False := by simp; omega
    simp only [k1, decide_false, Bool.false_and, Bool.false_eq_true, if_false] at ht
    simp (config := {maxSteps := 1000000}) only [g2, g3, wij, ht, q23, q25, encT, tokD, askE, tb39_e, Int.natCast_nonneg, Nat.le_refl, Int.le_refl, List.take_succ_cons, List.take_zero, decide_true, decide_false, Bool.and_false, Bool.false_and, zz, zzN, ↓reduceIte, Nat.reduceEqDiff, Nat.reduceBEq, Int.reduceLT, Int.reduceLE, Int.reduceToNat, Int.reduceEq, Int.reduceAdd, Int.reduceSub, Int.reduceMul, Int.reduceNeg, Nat.reduceMul, Nat.reduceSub, Nat.reduceLeDiff, Nat.reduceLT, Int.reduceGT, Int.reduceBEq, Int.reduceBNe, reduceCtorEq, Nat.reduceAdd, Ins.map, Fr.ev, argFr, argE, binEv, intEv, shEv, strEv, unEv, Fr.mark, evRes, tup, lenD, lookupD, loadD, partD, storeD, cellsD, cellOk, setAt, objNe, objSame, eqEv, readEv, buildD, buildRows, rowsOf, elemsOf]
end Go.Proofs.Ytaimobfakcompaa.Zz
