/- Contracts: bytes in pieces. -/
import Derived.Test.YtiilnakenlegmaaZK13
namespace Go.Proofs.Ytiilnakenlegmaa.Zz
set_option linter.unusedVariables false
set_option linter.unusedSimpArgs false
set_option maxRecDepth 20000
def p5 : Plan := ⟨⟨[], [(1, 0), (5, 6), (7, 5), (10, 1), (11, 3), (11, 10), (11, 17)], [], [], [], [(1, 0)]⟩, []⟩
/-- cupel/cupellaw01.ShaSoaks (2 parameters, 0 captured) -/
def s5 : Stm :=
  .seq (.ops [⟨.mov (.c (.bool false)), (some 4), none, true⟩])
  (.seq (.ops [⟨.callA 14, (some 9), none, false⟩,
     ⟨.mov (.t 9), (some 5), none, true⟩,
     ⟨.mov (.c (.str [])), (some 6), none, true⟩])
  (.seq (.seq (.ops [⟨.mov (.c (.int .i64 0)), (some 7), none, true⟩])
   (.block 0 (.loop (.seq (.seq (.ops [⟨.mov (.t 7), (some 10), none, true⟩,
         ⟨.mov (.t 0), (some 11), none, true⟩,
         ⟨.len .sl (.t 11), (some 12), none, false⟩,
         ⟨.bin .lss (.t 10) (.t 12), (some 13), none, true⟩,
         ⟨.mov (.t 13), (some 14), none, true⟩,
         ⟨.mov (.t 7), (some 15), (some (14, true)), true⟩,
         ⟨.bin .lss (.t 15) (.c (.int .i64 12)), (some 16), (some (14, true)), true⟩,
         ⟨.pick (.t 14) (.t 16) (.c (.bool false)), (some 17), none, true⟩])
      (.cond (.t 17)
       (.skip)
       (.exit 0)))
     (.seq (.block 1 (.seq (.ops [⟨.mov (.t 5), (some 20), none, true⟩,
          ⟨.mov (.t 0), (some 21), none, true⟩,
          ⟨.mov (.t 7), (some 22), none, true⟩,
          ⟨.indexAddrS 1 (.t 21) (.t 22), (some 23), none, false⟩,
          ⟨.load none (.t 23), (some 24), none, false⟩,
          ⟨.qcall (.f 12) [(.t 24)], (some 25), none, false⟩,
          ⟨.call (.f 15) [(.t 20), (.t 25)], (some 26), none, false⟩])
       (.seq (.ops [⟨.mov (.t 6), (some 27), none, true⟩,
          ⟨.mov (.t 0), (some 28), none, true⟩,
          ⟨.mov (.t 7), (some 29), none, true⟩,
          ⟨.indexAddrS 1 (.t 28) (.t 29), (some 30), none, false⟩,
          ⟨.load none (.t 30), (some 31), none, false⟩,
          ⟨.qcall (.f 12) [(.t 31)], (some 32), none, false⟩,
          ⟨.bin .add (.t 27) (.t 32), (some 33), none, true⟩,
          ⟨.mov (.t 33), (some 6), none, true⟩])
       (.seq (.ops [⟨.mov (.t 7), (some 34), none, true⟩,
          ⟨.mov (.t 1), (some 35), none, true⟩,
          ⟨.bin .eql (.t 34) (.t 35), (some 36), none, true⟩,
          ⟨.mov (.t 36), (some 37), none, true⟩,
          ⟨.mov (.t 5), (some 38), (some (37, true)), true⟩,
          ⟨.call (.f 16) [(.t 38)], (some 39), (some (37, true)), false⟩,
          ⟨.mov (.t 6), (some 40), (some (37, true)), true⟩,
          ⟨.qcall (.f 13) [(.t 40)], (some 41), (some (37, true)), false⟩,
          ⟨.bin .neq (.t 39) (.t 41), (some 42), (some (37, true)), true⟩,
          ⟨.pick (.t 37) (.t 42) (.c (.bool false)), (some 43), none, true⟩])
       (.cond (.t 43)
        (.seq (.ops [⟨.mov (.c (.bool false)), (some 4), none, true⟩])
         (.ret))
        (.skip))))))
     (.ops [⟨.mov (.t 7), (some 18), none, true⟩,
       ⟨.bin .add (.t 18) (.c (.int .i64 1)), (some 19), none, true⟩,
       ⟨.mov (.t 19), (some 7), none, true⟩]))))))
  (.seq (.ops [⟨.mov (.c .nilptr), (some 8), none, true⟩])
  (.seq (.ops [⟨.mov (.t 8), (some 44), none, true⟩,
     ⟨.call (.f 15) [(.t 44), (.c (.str [120]))], (some 45), none, false⟩])
  (.seq (.ops [⟨.qcall (.f 8) [], (some 46), none, false⟩,
     ⟨.mov (.t 46), (some 47), none, true⟩,
     ⟨.mov (.t 5), (some 48), (some (47, true)), true⟩,
     ⟨.call (.f 16) [(.t 48)], (some 49), (some (47, true)), false⟩,
     ⟨.mov (.t 6), (some 50), (some (47, true)), true⟩,
     ⟨.qcall (.f 13) [(.t 50)], (some 51), (some (47, true)), false⟩,
     ⟨.bin .eql (.t 49) (.t 51), (some 52), (some (47, true)), true⟩,
     ⟨.pick (.t 47) (.t 52) (.c (.bool false)), (some 53), none, true⟩,
     ⟨.mov (.t 53), (some 54), none, true⟩,
     ⟨.mov (.t 5), (some 55), (some (54, true)), true⟩,
     ⟨.call (.f 16) [(.t 55)], (some 56), (some (54, true)), false⟩,
     ⟨.mov (.t 6), (some 57), (some (54, true)), true⟩,
     ⟨.qcall (.f 11) [(.t 57)], (some 58), (some (54, true)), false⟩,
     ⟨.bin .eql (.t 56) (.t 58), (some 59), (some (54, true)), true⟩,
     ⟨.pick (.t 54) (.t 59) (.c (.bool false)), (some 60), none, true⟩,
     ⟨.mov (.t 60), (some 61), none, true⟩,
     ⟨.mov (.t 8), (some 62), (some (61, true)), true⟩,
     ⟨.call (.f 16) [(.t 62)], (some 63), (some (61, true)), false⟩,
     ⟨.bin .eql (.t 63) (.c (.str [])), (some 64), (some (61, true)), true⟩,
     ⟨.pick (.t 61) (.t 64) (.c (.bool false)), (some 65), none, true⟩,
     ⟨.mov (.t 65), (some 4), none, true⟩])
  (.ret))))))
theorem st5 : stmOf Try.prog 5 p5 = some (s5, [.tmp 4], 66) := by kernel_rfl

def allS (l : List (List UInt8)) (i : Nat) : List UInt8 := (l.take i).flatMap fun s => s.take 1200
theorem allS_succ {l : List (List UInt8)} {i : Nat} {x : List UInt8} (h : l[i]? = some x) : allS l (i + 1) = allS l i ++ x.take 1200 := by
  unfold allS
  obtain ⟨h1, h2⟩ := List.getElem?_eq_some_iff.1 h
  rw [List.take_succ_eq_append_getElem h1, List.flatMap_append, h2]
  simp
theorem len_allS (l : List (List UInt8)) : ∀ i, (allS l i).length ≤ 1200 * i := by
  intro i
  induction i with
  | zero => simp [allS]
  | succ i ih =>
    cases e : l[i]? with
    | none =>
      have := List.getElem?_eq_none_iff.1 e
      unfold allS at *
      rw [List.take_of_length_le (by omega)] at *
      omega
    | some x =>
      rw [allS_succ e, List.length_append, List.length_take]
      omega
theorem askE_strs {K : D → AHeap → Prop} {h : AHeap} {l : List (List UInt8)} {i : Nat} {x : List UInt8} (e : l[i]? = some x) : askE 1 K h (l.map fun s => [D.str s]) (i : Int) = K (.eptr [.str x] 0) h := by
  rw [askE_map (f := fun s => [D.str s]) fun _ => rfl]
  have := (List.getElem?_eq_some_iff.1 e).1
  have h2 : (i : Int) < (l.length : Int) := by omega
  simp [e, h2]
set_option maxHeartbeats 4000000 in
theorem shaSoaks_c (l : List (List UInt8)) (a : Int) : PCall Try.prog 5 [.sl (l.map fun s => [.str s]), .int .i64 a] (.bool true) := by
  refine PCall.run tb100_ok st5 (by simp) fun E => ?_
  have e0 : writeS (zW, 0) (allS l 0) = (zW, 0) := rfl
  have e1 : allS l 0 = [] := rfl
  simp (config := {maxSteps := 1000000}) only [s5, tb10_e, tb100_e, Int.natCast_nonneg, Nat.le_refl, Int.le_refl, List.take_succ_cons, List.take_zero, decide_true, decide_false, Bool.and_false, Bool.false_and, zz, zzN, zzF, fltEv, isArithF, ↓reduceIte, Nat.reduceEqDiff, Nat.reduceBEq, Int.reduceLT, Int.reduceLE, Int.reduceToNat, Int.reduceEq, Int.reduceAdd, Int.reduceSub, Int.reduceMul, Int.reduceNeg, Nat.reduceMul, Nat.reduceSub, Nat.reduceLeDiff, Nat.reduceLT, Int.reduceGT, Int.reduceBEq, Int.reduceBNe, reduceCtorEq, Nat.reduceAdd, Ins.map, Fr.ev, argFr, argE, binEv, intEv, shEv, strEv, unEv, Fr.mark, evRes, tup, lenD, lookupD, loadD, partD, storeD, cellsD, cellOk, setAt, objNe, objSame, eqEv, readEv, buildD, buildRows, rowsOf, elemsOf]
  intro id
  refine run_loop (X := Nat) (fun i => [(0, .sl (l.map fun s => [.str s])), (1, .int .i64 a), (5, .ptr id 1 0), (6, .str (allS l i)), (7, .int .i64 i)]) (fun i => AHeap.emp.set id (.cells (encG (writeS (zW, 0) (allS l i))))) (fun i => 12 - i) (fun i => i ≤ 12) 0 (by simp) ?_ ?_ ?_
  · simp only [e1, Int.natCast_nonneg, Nat.le_refl, Int.le_refl, List.take_succ_cons, List.take_zero, decide_true, decide_false, Bool.and_false, Bool.false_and, zz, zzN, zzF, fltEv, isArithF, ↓reduceIte, Nat.reduceEqDiff, Nat.reduceBEq, Int.reduceLT, Int.reduceLE, Int.reduceToNat, Int.reduceEq, Int.reduceAdd, Int.reduceSub, Int.reduceMul, Int.reduceNeg, Nat.reduceMul, Nat.reduceSub, Nat.reduceLeDiff, Nat.reduceLT, Int.reduceGT, Int.reduceBEq, Int.reduceBNe, reduceCtorEq, Nat.reduceAdd, Ins.map, Fr.ev, argFr, argE, binEv, intEv, shEv, strEv, unEv, Fr.mark, evRes, tup, lenD, lookupD, loadD, partD, storeD, cellsD, cellOk, setAt, objNe, objSame, eqEv, readEv, buildD, buildRows, rowsOf, elemsOf]
  · rw [e0]; exact AHeap.sub_refl _
  intro i Q hi hQ
  have ho := writeS_ok (l := allS l i) zW_ok.1 zW_ok.2
  have la := len_allS l i
  have lm : (l.map fun s => [D.str s]).length = l.length := List.length_map _
  by_cases c1 : i < l.length
  · by_cases c2 : i < 12
    · have g1 : ((i : Int) < (l.length : Int)) = True := eq_true (by omega)
      have g2 : ((i : Int) < 12) = True := eq_true (by omega)
      have wi : IntKind.i64.wrap ((i : Int) + 1) = ((i + 1 : Nat) : Int) := wrap_succ (by omega)
      obtain ⟨x, e⟩ : ∃ x, l[i]? = some x := ⟨l[i], List.getElem?_eq_getElem c1⟩
      have ae : ∀ (K : D → AHeap → Prop) (h : AHeap), askE 1 K h (l.map fun s => [D.str s]) (i : Int) = K (.eptr [.str x] 0) h := fun K h => askE_strs e
      have f := allS_succ e
      have q := q12_eq x
      have lx : (x.take 1200).length ≤ 1200 := by rw [List.length_take]; omega
      have fw := writeS_app (zW, 0) (allS l i) (x.take 1200)
      generalize allS l i = A at *
      generalize x.take 1200 = X at *
      have hs : (A.length + X.length ≤ 9223372036854775807) = True := eq_true (by omega)
      have q2 := q13_eq (s := A ++ X) (by rw [List.length_append]; omega)
      have ho2 := writeS_ok (l := A ++ X) zW_ok.1 zW_ok.2
      simp (config := {maxSteps := 1000000}) only [lm, g1, g2, ae, q, tb10_e, tb100_e, Int.natCast_nonneg, Nat.le_refl, Int.le_refl, List.take_succ_cons, List.take_zero, decide_true, decide_false, Bool.and_false, Bool.false_and, zz, zzN, zzF, fltEv, isArithF, ↓reduceIte, Nat.reduceEqDiff, Nat.reduceBEq, Int.reduceLT, Int.reduceLE, Int.reduceToNat, Int.reduceEq, Int.reduceAdd, Int.reduceSub, Int.reduceMul, Int.reduceNeg, Nat.reduceMul, Nat.reduceSub, Nat.reduceLeDiff, Nat.reduceLT, Int.reduceGT, Int.reduceBEq, Int.reduceBNe, reduceCtorEq, Nat.reduceAdd, Ins.map, Fr.ev, argFr, argE, binEv, intEv, shEv, strEv, unEv, Fr.mark, evRes, tup, lenD, lookupD, loadD, partD, storeD, cellsD, cellOk, setAt, objNe, objSame, eqEv, readEv, buildD, buildRows, rowsOf, elemsOf]
      intro hl
      refine .inl ⟨id, writeS (zW, 0) A, X, rfl, by simp, ho.1, ho.2, ?_⟩
      rw [← fw, AHeap.set_set]
      have fs : sumS (writeS (zW, 0) (A ++ X)) = shaB (A ++ X) := rfl
      generalize hS : writeS (zW, 0) (A ++ X) = S at *
      by_cases c3 : (i : Int) = a
      · have g3 : ((i : Int) == a) = true := by simpa using c3
        simp (config := {maxSteps := 1000000}) only [lm, g1, g2, g3, ae, q, hs, tb10_e, tb100_e, Int.natCast_nonneg, Nat.le_refl, Int.le_refl, List.take_succ_cons, List.take_zero, decide_true, decide_false, Bool.and_false, Bool.false_and, zz, zzN, zzF, fltEv, isArithF, ↓reduceIte, Nat.reduceEqDiff, Nat.reduceBEq, Int.reduceLT, Int.reduceLE, Int.reduceToNat, Int.reduceEq, Int.reduceAdd, Int.reduceSub, Int.reduceMul, Int.reduceNeg, Nat.reduceMul, Nat.reduceSub, Nat.reduceLeDiff, Nat.reduceLT, Int.reduceGT, Int.reduceBEq, Int.reduceBNe, reduceCtorEq, Nat.reduceAdd, Ins.map, Fr.ev, argFr, argE, binEv, intEv, shEv, strEv, unEv, Fr.mark, evRes, tup, lenD, lookupD, loadD, partD, storeD, cellsD, cellOk, setAt, objNe, objSame, eqEv, readEv, buildD, buildRows, rowsOf, elemsOf]
        refine .inl ⟨id, S, rfl, by simp, ho2.1, ho2.2, ?_⟩
        simp (config := {maxSteps := 1000000}) only [fs, q2, wi, tb10_e, tb100_e, Int.natCast_nonneg, Nat.le_refl, Int.le_refl, List.take_succ_cons, List.take_zero, decide_true, decide_false, Bool.and_false, Bool.false_and, zz, zzN, zzF, fltEv, isArithF, ↓reduceIte, Nat.reduceEqDiff, Nat.reduceBEq, Int.reduceLT, Int.reduceLE, Int.reduceToNat, Int.reduceEq, Int.reduceAdd, Int.reduceSub, Int.reduceMul, Int.reduceNeg, Nat.reduceMul, Nat.reduceSub, Nat.reduceLeDiff, Nat.reduceLT, Int.reduceGT, Int.reduceBEq, Int.reduceBNe, reduceCtorEq, Nat.reduceAdd, Ins.map, Fr.ev, argFr, argE, binEv, intEv, shEv, strEv, unEv, Fr.mark, evRes, tup, lenD, lookupD, loadD, partD, storeD, cellsD, cellOk, setAt, objNe, objSame, eqEv, readEv, buildD, buildRows, rowsOf, elemsOf]
        exact hQ (i + 1) _ _ (by omega) (by simp only [f, Int.natCast_nonneg, Nat.le_refl, Int.le_refl, List.take_succ_cons, List.take_zero, decide_true, decide_false, Bool.and_false, Bool.false_and, zz, zzN, zzF, fltEv, isArithF, ↓reduceIte, Nat.reduceEqDiff, Nat.reduceBEq, Int.reduceLT, Int.reduceLE, Int.reduceToNat, Int.reduceEq, Int.reduceAdd, Int.reduceSub, Int.reduceMul, Int.reduceNeg, Nat.reduceMul, Nat.reduceSub, Nat.reduceLeDiff, Nat.reduceLT, Int.reduceGT, Int.reduceBEq, Int.reduceBNe, reduceCtorEq, Nat.reduceAdd, Ins.map, Fr.ev, argFr, argE, binEv, intEv, shEv, strEv, unEv, Fr.mark, evRes, tup, lenD, lookupD, loadD, partD, storeD, cellsD, cellOk, setAt, objNe, objSame, eqEv, readEv, buildD, buildRows, rowsOf, elemsOf]) (by rw [f, hS]; exact AHeap.sub_refl _) (by omega)
      · have g3 : ((i : Int) == a) = false := by simpa using c3
        simp (config := {maxSteps := 1000000}) only [lm, g1, g2, g3, ae, q, hs, wi, tb10_e, tb100_e, Int.natCast_nonneg, Nat.le_refl, Int.le_refl, List.take_succ_cons, List.take_zero, decide_true, decide_false, Bool.and_false, Bool.false_and, zz, zzN, zzF, fltEv, isArithF, ↓reduceIte, Nat.reduceEqDiff, Nat.reduceBEq, Int.reduceLT, Int.reduceLE, Int.reduceToNat, Int.reduceEq, Int.reduceAdd, Int.reduceSub, Int.reduceMul, Int.reduceNeg, Nat.reduceMul, Nat.reduceSub, Nat.reduceLeDiff, Nat.reduceLT, Int.reduceGT, Int.reduceBEq, Int.reduceBNe, reduceCtorEq, Nat.reduceAdd, Ins.map, Fr.ev, argFr, argE, binEv, intEv, shEv, strEv, unEv, Fr.mark, evRes, tup, lenD, lookupD, loadD, partD, storeD, cellsD, cellOk, setAt, objNe, objSame, eqEv, readEv, buildD, buildRows, rowsOf, elemsOf]
        exact hQ (i + 1) _ _ (by omega) (by simp only [f, Int.natCast_nonneg, Nat.le_refl, Int.le_refl, List.take_succ_cons, List.take_zero, decide_true, decide_false, Bool.and_false, Bool.false_and, zz, zzN, zzF, fltEv, isArithF, ↓reduceIte, Nat.reduceEqDiff, Nat.reduceBEq, Int.reduceLT, Int.reduceLE, Int.reduceToNat, Int.reduceEq, Int.reduceAdd, Int.reduceSub, Int.reduceMul, Int.reduceNeg, Nat.reduceMul, Nat.reduceSub, Nat.reduceLeDiff, Nat.reduceLT, Int.reduceGT, Int.reduceBEq, Int.reduceBNe, reduceCtorEq, Nat.reduceAdd, Ins.map, Fr.ev, argFr, argE, binEv, intEv, shEv, strEv, unEv, Fr.mark, evRes, tup, lenD, lookupD, loadD, partD, storeD, cellsD, cellOk, setAt, objNe, objSame, eqEv, readEv, buildD, buildRows, rowsOf, elemsOf]) (by rw [f, hS]; exact AHeap.sub_refl _) (by omega)
    · have g1 : ((i : Int) < (l.length : Int)) = True := eq_true (by omega)
      have g2 : ((i : Int) < 12) = False := eq_false (by omega)
      simp (config := {maxSteps := 1000000}) only [lm, g1, g2, tb10_e, tb100_e, Int.natCast_nonneg, Nat.le_refl, Int.le_refl, List.take_succ_cons, List.take_zero, decide_true, decide_false, Bool.and_false, Bool.false_and, zz, zzN, zzF, fltEv, isArithF, ↓reduceIte, Nat.reduceEqDiff, Nat.reduceBEq, Int.reduceLT, Int.reduceLE, Int.reduceToNat, Int.reduceEq, Int.reduceAdd, Int.reduceSub, Int.reduceMul, Int.reduceNeg, Nat.reduceMul, Nat.reduceSub, Nat.reduceLeDiff, Nat.reduceLT, Int.reduceGT, Int.reduceBEq, Int.reduceBNe, reduceCtorEq, Nat.reduceAdd, Ins.map, Fr.ev, argFr, argE, binEv, intEv, shEv, strEv, unEv, Fr.mark, evRes, tup, lenD, lookupD, loadD, partD, storeD, cellsD, cellOk, setAt, objNe, objSame, eqEv, readEv, buildD, buildRows, rowsOf, elemsOf]
      intro hl
      refine .inr ⟨_, rfl, ?_⟩
      have fs : sumS (writeS (zW, 0) (allS l i)) = shaB (allS l i) := rfl
      have q2 := q13_eq (s := allS l i) (by omega)
      generalize allS l i = A at *
      generalize writeS (zW, 0) A = S at *
      simp (config := {maxSteps := 1000000}) only [q8_eq, tb10_e, tb100_e, Int.natCast_nonneg, Nat.le_refl, Int.le_refl, List.take_succ_cons, List.take_zero, decide_true, decide_false, Bool.and_false, Bool.false_and, zz, zzN, zzF, fltEv, isArithF, ↓reduceIte, Nat.reduceEqDiff, Nat.reduceBEq, Int.reduceLT, Int.reduceLE, Int.reduceToNat, Int.reduceEq, Int.reduceAdd, Int.reduceSub, Int.reduceMul, Int.reduceNeg, Nat.reduceMul, Nat.reduceSub, Nat.reduceLeDiff, Nat.reduceLT, Int.reduceGT, Int.reduceBEq, Int.reduceBNe, reduceCtorEq, Nat.reduceAdd, Ins.map, Fr.ev, argFr, argE, binEv, intEv, shEv, strEv, unEv, Fr.mark, evRes, tup, lenD, lookupD, loadD, partD, storeD, cellsD, cellOk, setAt, objNe, objSame, eqEv, readEv, buildD, buildRows, rowsOf, elemsOf]
      refine .inl ⟨id, S, rfl, by simp, ho.1, ho.2, ?_⟩
      simp (config := {maxSteps := 1000000}) only [fs, q2, tb10_e, tb100_e, Int.natCast_nonneg, Nat.le_refl, Int.le_refl, List.take_succ_cons, List.take_zero, decide_true, decide_false, Bool.and_false, Bool.false_and, zz, zzN, zzF, fltEv, isArithF, ↓reduceIte, Nat.reduceEqDiff, Nat.reduceBEq, Int.reduceLT, Int.reduceLE, Int.reduceToNat, Int.reduceEq, Int.reduceAdd, Int.reduceSub, Int.reduceMul, Int.reduceNeg, Nat.reduceMul, Nat.reduceSub, Nat.reduceLeDiff, Nat.reduceLT, Int.reduceGT, Int.reduceBEq, Int.reduceBNe, reduceCtorEq, Nat.reduceAdd, Ins.map, Fr.ev, argFr, argE, binEv, intEv, shEv, strEv, unEv, Fr.mark, evRes, tup, lenD, lookupD, loadD, partD, storeD, cellsD, cellOk, setAt, objNe, objSame, eqEv, readEv, buildD, buildRows, rowsOf, elemsOf]
      refine .inl ⟨id, S, rfl, by simp, ho.1, ho.2, ?_⟩
      simp (config := {maxSteps := 1000000}) only [fs, q2, q8_eq, q11_eq, tb10_e, tb100_e, Int.natCast_nonneg, Nat.le_refl, Int.le_refl, List.take_succ_cons, List.take_zero, decide_true, decide_false, Bool.and_false, Bool.false_and, zz, zzN, zzF, fltEv, isArithF, ↓reduceIte, Nat.reduceEqDiff, Nat.reduceBEq, Int.reduceLT, Int.reduceLE, Int.reduceToNat, Int.reduceEq, Int.reduceAdd, Int.reduceSub, Int.reduceMul, Int.reduceNeg, Nat.reduceMul, Nat.reduceSub, Nat.reduceLeDiff, Nat.reduceLT, Int.reduceGT, Int.reduceBEq, Int.reduceBNe, reduceCtorEq, Nat.reduceAdd, Ins.map, Fr.ev, argFr, argE, binEv, intEv, shEv, strEv, unEv, Fr.mark, evRes, tup, lenD, lookupD, loadD, partD, storeD, cellsD, cellOk, setAt, objNe, objSame, eqEv, readEv, buildD, buildRows, rowsOf, elemsOf]
      refine .inr ⟨rfl, ?_⟩
      simp (config := {maxSteps := 1000000}) only [fs, q2, q8_eq, q11_eq, tb10_e, tb100_e, Int.natCast_nonneg, Nat.le_refl, Int.le_refl, List.take_succ_cons, List.take_zero, decide_true, decide_false, Bool.and_false, Bool.false_and, zz, zzN, zzF, fltEv, isArithF, ↓reduceIte, Nat.reduceEqDiff, Nat.reduceBEq, Int.reduceLT, Int.reduceLE, Int.reduceToNat, Int.reduceEq, Int.reduceAdd, Int.reduceSub, Int.reduceMul, Int.reduceNeg, Nat.reduceMul, Nat.reduceSub, Nat.reduceLeDiff, Nat.reduceLT, Int.reduceGT, Int.reduceBEq, Int.reduceBNe, reduceCtorEq, Nat.reduceAdd, Ins.map, Fr.ev, argFr, argE, binEv, intEv, shEv, strEv, unEv, Fr.mark, evRes, tup, lenD, lookupD, loadD, partD, storeD, cellsD, cellOk, setAt, objNe, objSame, eqEv, readEv, buildD, buildRows, rowsOf, elemsOf]
  · have g1 : ((i : Int) < (l.length : Int)) = False := eq_false (by omega)
    simp (config := {maxSteps := 1000000}) only [lm, g1, tb10_e, tb100_e, Int.natCast_nonneg, Nat.le_refl, Int.le_refl, List.take_succ_cons, List.take_zero, decide_true, decide_false, Bool.and_false, Bool.false_and, zz, zzN, zzF, fltEv, isArithF, ↓reduceIte, Nat.reduceEqDiff, Nat.reduceBEq, Int.reduceLT, Int.reduceLE, Int.reduceToNat, Int.reduceEq, Int.reduceAdd, Int.reduceSub, Int.reduceMul, Int.reduceNeg, Nat.reduceMul, Nat.reduceSub, Nat.reduceLeDiff, Nat.reduceLT, Int.reduceGT, Int.reduceBEq, Int.reduceBNe, reduceCtorEq, Nat.reduceAdd, Ins.map, Fr.ev, argFr, argE, binEv, intEv, shEv, strEv, unEv, Fr.mark, evRes, tup, lenD, lookupD, loadD, partD, storeD, cellsD, cellOk, setAt, objNe, objSame, eqEv, readEv, buildD, buildRows, rowsOf, elemsOf]
    intro hl
    refine .inr ⟨_, rfl, ?_⟩
    have fs : sumS (writeS (zW, 0) (allS l i)) = shaB (allS l i) := rfl
    have q2 := q13_eq (s := allS l i) (by omega)
    generalize allS l i = A at *
    generalize writeS (zW, 0) A = S at *
    simp (config := {maxSteps := 1000000}) only [q8_eq, tb10_e, tb100_e, Int.natCast_nonneg, Nat.le_refl, Int.le_refl, List.take_succ_cons, List.take_zero, decide_true, decide_false, Bool.and_false, Bool.false_and, zz, zzN, zzF, fltEv, isArithF, ↓reduceIte, Nat.reduceEqDiff, Nat.reduceBEq, Int.reduceLT, Int.reduceLE, Int.reduceToNat, Int.reduceEq, Int.reduceAdd, Int.reduceSub, Int.reduceMul, Int.reduceNeg, Nat.reduceMul, Nat.reduceSub, Nat.reduceLeDiff, Nat.reduceLT, Int.reduceGT, Int.reduceBEq, Int.reduceBNe, reduceCtorEq, Nat.reduceAdd, Ins.map, Fr.ev, argFr, argE, binEv, intEv, shEv, strEv, unEv, Fr.mark, evRes, tup, lenD, lookupD, loadD, partD, storeD, cellsD, cellOk, setAt, objNe, objSame, eqEv, readEv, buildD, buildRows, rowsOf, elemsOf]
    refine .inl ⟨id, S, rfl, by simp, ho.1, ho.2, ?_⟩
    simp (config := {maxSteps := 1000000}) only [fs, q2, tb10_e, tb100_e, Int.natCast_nonneg, Nat.le_refl, Int.le_refl, List.take_succ_cons, List.take_zero, decide_true, decide_false, Bool.and_false, Bool.false_and, zz, zzN, zzF, fltEv, isArithF, ↓reduceIte, Nat.reduceEqDiff, Nat.reduceBEq, Int.reduceLT, Int.reduceLE, Int.reduceToNat, Int.reduceEq, Int.reduceAdd, Int.reduceSub, Int.reduceMul, Int.reduceNeg, Nat.reduceMul, Nat.reduceSub, Nat.reduceLeDiff, Nat.reduceLT, Int.reduceGT, Int.reduceBEq, Int.reduceBNe, reduceCtorEq, Nat.reduceAdd, Ins.map, Fr.ev, argFr, argE, binEv, intEv, shEv, strEv, unEv, Fr.mark, evRes, tup, lenD, lookupD, loadD, partD, storeD, cellsD, cellOk, setAt, objNe, objSame, eqEv, readEv, buildD, buildRows, rowsOf, elemsOf]
    refine .inl ⟨id, S, rfl, by simp, ho.1, ho.2, ?_⟩
    simp (config := {maxSteps := 1000000}) only [fs, q2, q8_eq, q11_eq, tb10_e, tb100_e, Int.natCast_nonneg, Nat.le_refl, Int.le_refl, List.take_succ_cons, List.take_zero, decide_true, decide_false, Bool.and_false, Bool.false_and, zz, zzN, zzF, fltEv, isArithF, ↓reduceIte, Nat.reduceEqDiff, Nat.reduceBEq, Int.reduceLT, Int.reduceLE, Int.reduceToNat, Int.reduceEq, Int.reduceAdd, Int.reduceSub, Int.reduceMul, Int.reduceNeg, Nat.reduceMul, Nat.reduceSub, Nat.reduceLeDiff, Nat.reduceLT, Int.reduceGT, Int.reduceBEq, Int.reduceBNe, reduceCtorEq, Nat.reduceAdd, Ins.map, Fr.ev, argFr, argE, binEv, intEv, shEv, strEv, unEv, Fr.mark, evRes, tup, lenD, lookupD, loadD, partD, storeD, cellsD, cellOk, setAt, objNe, objSame, eqEv, readEv, buildD, buildRows, rowsOf, elemsOf]
    refine .inr ⟨rfl, ?_⟩
    simp (config := {maxSteps := 1000000}) only [fs, q2, q8_eq, q11_eq, tb10_e, tb100_e, Int.natCast_nonneg, Nat.le_refl, Int.le_refl, List.take_succ_cons, List.take_zero, decide_true, decide_false, Bool.and_false, Bool.false_and, zz, zzN, zzF, fltEv, isArithF, ↓reduceIte, Nat.reduceEqDiff, Nat.reduceBEq, Int.reduceLT, Int.reduceLE, Int.reduceToNat, Int.reduceEq, Int.reduceAdd, Int.reduceSub, Int.reduceMul, Int.reduceNeg, Nat.reduceMul, Nat.reduceSub, Nat.reduceLeDiff, Nat.reduceLT, Int.reduceGT, Int.reduceBEq, Int.reduceBNe, reduceCtorEq, Nat.reduceAdd, Ins.map, Fr.ev, argFr, argE, binEv, intEv, shEv, strEv, unEv, Fr.mark, evRes, tup, lenD, lookupD, loadD, partD, storeD, cellsD, cellOk, setAt, objNe, objSame, eqEv, readEv, buildD, buildRows, rowsOf, elemsOf]
end Go.Proofs.Ytiilnakenlegmaa.Zz
