/- Contracts: the document's signs, and all its words. -/
import Derived.Test.YtaimobfakcompaaZL5
namespace Go.Proofs.Ytaimobfakcompaa.Zz
set_option linter.unusedVariables false
set_option linter.unusedSimpArgs false
set_option maxRecDepth 20000
def p56 : Plan := ⟨⟨[], [], [], [], [], []⟩, [(9, [0, 1, 2, 3, 4, 5, 6])]⟩
/-- cupel/cupelref09.sign (2 parameters, 0 captured) -/
def s56 : Stm :=
  .seq (.ops [⟨.mov (.c (.int .i64 0)), (some 4), none, true⟩])
  (.seq (.seq (.ops [⟨.mov (.t 1), (some 8), none, true⟩,
      ⟨.bin .add (.t 8) (.c (.int .i64 1)), (some 9), none, true⟩,
      ⟨.mov (.t 0), (some 10), none, true⟩,
      ⟨.len .str (.t 10), (some 11), none, false⟩,
      ⟨.bin .lss (.t 9) (.t 11), (some 12), none, true⟩])
   (.cond (.t 12)
    (.seq (.ops [⟨.mov (.t 0), (some 13), none, true⟩,
        ⟨.mov (.t 1), (some 14), none, true⟩,
        ⟨.mov (.t 1), (some 15), none, true⟩,
        ⟨.bin .add (.t 15) (.c (.int .i64 2)), (some 16), none, true⟩,
        ⟨.slice .str (.t 13) (some (.t 14)) (some (.t 16)) none, (some 17), none, false⟩,
        ⟨.mov (.t 17), (some 5), none, true⟩])
     (.seq (.ops [⟨.mov (.t 5), (some 18), none, true⟩,
        ⟨.bin .eql (.t 18) (.c (.str [58, 61])), (some 19), none, true⟩,
        ⟨.mov (.t 19), (some 20), none, true⟩,
        ⟨.mov (.t 5), (some 21), (some (20, false)), true⟩,
        ⟨.bin .eql (.t 21) (.c (.str [60, 61])), (some 22), (some (20, false)), true⟩,
        ⟨.pick (.t 20) (.c (.bool true)) (.t 22), (some 23), none, true⟩,
        ⟨.mov (.t 23), (some 24), none, true⟩,
        ⟨.mov (.t 5), (some 25), (some (24, false)), true⟩,
        ⟨.bin .eql (.t 25) (.c (.str [62, 61])), (some 26), (some (24, false)), true⟩,
        ⟨.pick (.t 24) (.c (.bool true)) (.t 26), (some 27), none, true⟩,
        ⟨.mov (.t 27), (some 28), none, true⟩,
        ⟨.mov (.t 5), (some 29), (some (28, false)), true⟩,
        ⟨.bin .eql (.t 29) (.c (.str [61, 61])), (some 30), (some (28, false)), true⟩,
        ⟨.pick (.t 28) (.c (.bool true)) (.t 30), (some 31), none, true⟩,
        ⟨.mov (.t 31), (some 32), none, true⟩,
        ⟨.mov (.t 5), (some 33), (some (32, false)), true⟩,
        ⟨.bin .eql (.t 33) (.c (.str [33, 61])), (some 34), (some (32, false)), true⟩,
        ⟨.pick (.t 32) (.c (.bool true)) (.t 34), (some 35), none, true⟩,
        ⟨.mov (.t 35), (some 36), none, true⟩,
        ⟨.mov (.t 5), (some 37), (some (36, false)), true⟩,
        ⟨.bin .eql (.t 37) (.c (.str [38, 38])), (some 38), (some (36, false)), true⟩,
        ⟨.pick (.t 36) (.c (.bool true)) (.t 38), (some 39), none, true⟩,
        ⟨.mov (.t 39), (some 40), none, true⟩,
        ⟨.mov (.t 5), (some 41), (some (40, false)), true⟩,
        ⟨.bin .eql (.t 41) (.c (.str [124, 124])), (some 42), (some (40, false)), true⟩,
        ⟨.pick (.t 40) (.c (.bool true)) (.t 42), (some 43), none, true⟩])
     (.cond (.t 43)
      (.seq (.ops [⟨.mov (.c (.int .i64 2)), (some 4), none, true⟩])
       (.ret))
      (.skip))))
    (.skip)))
  (.seq (.ops [⟨.mov (.c (.str [40, 41, 123, 125, 44, 59, 61, 43, 45, 42, 47, 37, 60, 62, 33])), (some 6), none, true⟩])
  (.seq (.seq (.ops [⟨.mov (.c (.int .i64 0)), (some 7), none, true⟩])
   (.block 0 (.loop (.seq (.seq (.ops [⟨.mov (.t 7), (some 44), none, true⟩,
         ⟨.mov (.t 6), (some 45), none, true⟩,
         ⟨.len .str (.t 45), (some 46), none, false⟩,
         ⟨.bin .lss (.t 44) (.t 46), (some 47), none, true⟩])
      (.cond (.t 47)
       (.skip)
       (.exit 0)))
     (.seq (.block 1 (.seq (.ops [⟨.mov (.t 6), (some 50), none, true⟩,
          ⟨.mov (.t 7), (some 51), none, true⟩,
          ⟨.indexS (.t 50) (.t 51), (some 52), none, true⟩,
          ⟨.mov (.t 0), (some 53), none, true⟩,
          ⟨.mov (.t 1), (some 54), none, true⟩,
          ⟨.indexS (.t 53) (.t 54), (some 55), none, true⟩,
          ⟨.bin .eql (.t 52) (.t 55), (some 56), none, true⟩])
       (.cond (.t 56)
        (.seq (.ops [⟨.mov (.c (.int .i64 1)), (some 4), none, true⟩])
         (.ret))
        (.skip))))
     (.ops [⟨.mov (.t 7), (some 48), none, true⟩,
       ⟨.bin .add (.t 48) (.c (.int .i64 1)), (some 49), none, true⟩,
       ⟨.mov (.t 49), (some 7), none, true⟩]))))))
  (.seq (.ops [⟨.mov (.c (.int .i64 0)), (some 4), none, true⟩])
  (.ret)))))
theorem st56 : stmOf Try.prog 56 p56 = some (s56, [.tmp 4], 57) := by kernel_rfl

def p24 : Plan := ⟨⟨[(3, 0)], [], [], [], [], []⟩, []⟩
/-- cupel/cupelref09.Tokens (1 parameters, 0 captured) -/
def s24 : Stm :=
  .seq (.ops [⟨.mov (.c .nilsl), (some 2), none, true⟩,
     ⟨.mov (.c (.int .i64 0)), (some 3), none, true⟩,
     ⟨.mov (.c (.int .i64 0)), (some 4), none, true⟩])
  (.seq (.seq (.ops [⟨.mov (.t 0), (some 10), none, true⟩,
      ⟨.len .str (.t 10), (some 11), none, false⟩,
      ⟨.bin .gtr (.t 11) (.c (.int .i64 4096)), (some 12), none, true⟩])
   (.cond (.t 12)
    (.seq (.ops [⟨.mov (.c .nilsl), (some 2), none, true⟩,
        ⟨.mov (.c (.int .i64 4096)), (some 3), none, true⟩,
        ⟨.mov (.c (.int .i64 3)), (some 4), none, true⟩])
     (.ret))
    (.skip)))
  (.seq (.ops [⟨.buildSlice 3 [(.int .i64 0), (.str []), (.int .i64 0)] 0 [] true, (some 13), none, false⟩,
     ⟨.mov (.t 13), (some 5), none, true⟩])
  (.seq (.ops [⟨.mov (.t 0), (some 14), none, true⟩,
     ⟨.qcall (.f 52) [(.t 14), (.c (.int .i64 0))], (some 15), none, false⟩,
     ⟨.mov (.t 15), (some 6), none, true⟩])
  (.seq (.block 0 (.loop (.seq (.seq (.ops [⟨.mov (.t 6), (some 16), none, true⟩,
         ⟨.mov (.t 0), (some 17), none, true⟩,
         ⟨.len .str (.t 17), (some 18), none, false⟩,
         ⟨.bin .lss (.t 16) (.t 18), (some 19), none, true⟩])
      (.cond (.t 19)
       (.skip)
       (.exit 0)))
     (.block 1 (.seq (.ops [⟨.mov (.t 6), (some 20), none, true⟩,
         ⟨.mov (.c (.int .i64 0)), (some 7), none, true⟩,
         ⟨.mov (.t 20), (some 8), none, true⟩])
      (.seq (.block 2 (.seq (.ops [⟨.mov (.t 0), (some 30), none, true⟩,
           ⟨.mov (.t 6), (some 31), none, true⟩,
           ⟨.indexS (.t 30) (.t 31), (some 32), none, true⟩,
           ⟨.qcall (.f 53) [(.t 32)], (some 33), none, false⟩,
           ⟨.mov (.t 33), (some 29), none, true⟩])
        (.cond (.t 29)
         (.ops [⟨.mov (.t 0), (some 35), none, true⟩,
            ⟨.mov (.t 6), (some 36), none, true⟩,
            ⟨.qcall (.f 54) [(.t 35), (.t 36)], (some 37), none, false⟩,
            ⟨.mov (.t 37), (some 34), none, true⟩,
            ⟨.extract (.t 34) 0, (some 38), none, true⟩,
            ⟨.extract (.t 34) 1, (some 39), none, true⟩,
            ⟨.mov (.t 38), (some 7), none, true⟩,
            ⟨.mov (.t 39), (some 8), none, true⟩])
         (.seq (.ops [⟨.mov (.t 0), (some 41), none, true⟩,
             ⟨.mov (.t 6), (some 42), none, true⟩,
             ⟨.indexS (.t 41) (.t 42), (some 43), none, true⟩,
             ⟨.qcall (.f 55) [(.t 43)], (some 44), none, false⟩,
             ⟨.mov (.t 44), (some 40), none, true⟩])
          (.cond (.t 40)
           (.seq (.block 3 (.loop (.seq (.seq (.ops [⟨.mov (.t 8), (some 45), none, true⟩,
                   ⟨.mov (.t 0), (some 46), none, true⟩,
                   ⟨.len .str (.t 46), (some 47), none, false⟩,
                   ⟨.bin .lss (.t 45) (.t 47), (some 48), none, true⟩,
                   ⟨.mov (.t 48), (some 49), none, true⟩,
                   ⟨.mov (.t 0), (some 50), (some (49, true)), true⟩,
                   ⟨.mov (.t 8), (some 51), (some (49, true)), true⟩,
                   ⟨.indexS (.t 50) (.t 51), (some 52), (some (49, true)), true⟩,
                   ⟨.qcall (.f 55) [(.t 52)], (some 53), (some (49, true)), false⟩,
                   ⟨.mov (.t 53), (some 54), (some (49, true)), true⟩,
                   ⟨.mov (.t 0), (some 55), (some (54, false)), true⟩,
                   ⟨.mov (.t 8), (some 56), (some (54, false)), true⟩,
                   ⟨.indexS (.t 55) (.t 56), (some 57), (some (54, false)), true⟩,
                   ⟨.qcall (.f 53) [(.t 57)], (some 58), (some (54, false)), false⟩,
                   ⟨.pick (.t 54) (.c (.bool true)) (.t 58), (some 59), (some (49, true)), true⟩,
                   ⟨.pick (.t 49) (.t 59) (.c (.bool false)), (some 60), none, true⟩])
                (.cond (.t 60)
                 (.skip)
                 (.exit 3)))
               (.block 4 (.ops [⟨.mov (.t 8), (some 61), none, true⟩,
                  ⟨.bin .add (.t 61) (.c (.int .i64 1)), (some 62), none, true⟩,
                  ⟨.mov (.t 62), (some 8), none, true⟩])))))
            (.seq (.ops [⟨.mov (.t 0), (some 63), none, true⟩,
               ⟨.mov (.t 6), (some 64), none, true⟩,
               ⟨.mov (.t 8), (some 65), none, true⟩,
               ⟨.slice .str (.t 63) (some (.t 64)) (some (.t 65)) none, (some 66), none, false⟩,
               ⟨.qcall (.f 41) [(.t 66)], (some 67), none, false⟩])
            (.cond (.t 67)
             (.ops [⟨.mov (.c (.int .i64 4)), (some 7), none, true⟩])
             (.seq (.ops [⟨.mov (.t 8), (some 68), none, true⟩,
                 ⟨.mov (.t 6), (some 69), none, true⟩,
                 ⟨.bin .sub (.t 68) (.t 69), (some 70), none, true⟩,
                 ⟨.bin .leq (.t 70) (.c (.int .i64 16)), (some 71), none, true⟩])
              (.cond (.t 71)
               (.ops [⟨.mov (.c (.int .i64 1)), (some 7), none, true⟩])
               (.skip))))))
           (.seq (.ops [⟨.mov (.t 0), (some 21), none, true⟩,
               ⟨.mov (.t 6), (some 22), none, true⟩,
               ⟨.qcall (.f 56) [(.t 21), (.t 22)], (some 23), none, false⟩,
               ⟨.mov (.t 23), (some 9), none, true⟩])
            (.seq (.ops [⟨.mov (.t 9), (some 24), none, true⟩,
               ⟨.bin .gtr (.t 24) (.c (.int .i64 0)), (some 25), none, true⟩])
            (.cond (.t 25)
             (.ops [⟨.mov (.t 6), (some 26), none, true⟩,
                ⟨.mov (.t 9), (some 27), none, true⟩,
                ⟨.bin .add (.t 26) (.t 27), (some 28), none, true⟩,
                ⟨.mov (.c (.int .i64 5)), (some 7), none, true⟩,
                ⟨.mov (.t 28), (some 8), none, true⟩])
             (.skip)))))))))
      (.seq (.seq (.ops [⟨.mov (.t 7), (some 72), none, true⟩,
          ⟨.bin .eql (.t 72) (.c (.int .i64 0)), (some 73), none, true⟩])
       (.cond (.t 73)
        (.seq (.ops [⟨.mov (.t 6), (some 74), none, true⟩,
            ⟨.mov (.c .nilsl), (some 2), none, true⟩,
            ⟨.mov (.t 74), (some 3), none, true⟩,
            ⟨.mov (.c (.int .i64 90)), (some 4), none, true⟩])
         (.ret))
        (.skip)))
      (.seq (.ops [⟨.mov (.t 5), (some 75), none, true⟩,
         ⟨.mov (.t 7), (some 76), none, true⟩,
         ⟨.mov (.t 0), (some 77), none, true⟩,
         ⟨.mov (.t 6), (some 78), none, true⟩,
         ⟨.mov (.t 8), (some 79), none, true⟩,
         ⟨.slice .str (.t 77) (some (.t 78)) (some (.t 79)) none, (some 80), none, false⟩,
         ⟨.mov (.t 6), (some 81), none, true⟩,
         ⟨.build [(.int .i64 0), (.str []), (.int .i64 0)] [(0, 1, (.t 76)), (1, 1, (.t 80)), (2, 1, (.t 81))], (some 82), none, true⟩,
         ⟨.buildSlice 3 [(.int .i64 0), (.str []), (.int .i64 0)] 1 [(0, (.t 82))] false, (some 83), none, true⟩,
         ⟨.append 3 32 false (.t 75) (.t 83), (some 84), none, false⟩,
         ⟨.mov (.t 84), (some 5), none, true⟩])
      (.ops [⟨.mov (.t 0), (some 85), none, true⟩,
        ⟨.mov (.t 8), (some 86), none, true⟩,
        ⟨.qcall (.f 52) [(.t 85), (.t 86)], (some 87), none, false⟩,
        ⟨.mov (.t 87), (some 6), none, true⟩])))))))))
  (.seq (.ops [⟨.mov (.t 5), (some 88), none, true⟩,
     ⟨.mov (.t 0), (some 89), none, true⟩,
     ⟨.len .str (.t 89), (some 90), none, false⟩,
     ⟨.build [(.int .i64 0), (.str []), (.int .i64 0)] [(0, 1, (.c (.int .i64 0))), (1, 1, (.c (.str []))), (2, 1, (.t 90))], (some 91), none, true⟩,
     ⟨.buildSlice 3 [(.int .i64 0), (.str []), (.int .i64 0)] 1 [(0, (.t 91))] false, (some 92), none, true⟩,
     ⟨.append 3 32 false (.t 88) (.t 92), (some 93), none, false⟩,
     ⟨.mov (.t 93), (some 2), none, true⟩,
     ⟨.mov (.c (.int .i64 0)), (some 3), none, true⟩,
     ⟨.mov (.c (.int .i64 0)), (some 4), none, true⟩])
  (.ret))))))
theorem st24 : stmOf Try.prog 24 p24 = some (s24, [.tmp 2, .tmp 3, .tmp 4], 94) := by kernel_rfl


def twos : List (List UInt8) := [[58, 61], [60, 61], [62, 61], [61, 61], [33, 61], [38, 38], [124, 124]]
def ones : List UInt8 := [40, 41, 123, 125, 44, 59, 61, 43, 45, 42, 47, 37, 60, 62, 33]
theorem signs_eq : signs = twos ++ ones.map fun c => [c] := rfl
theorem firstPre_app (l : List UInt8) (ys : List (List UInt8)) : ∀ xs : List (List UInt8), firstPre l (xs ++ ys) = match firstPre l xs with | some x => some x | none => firstPre l ys
  | [] => rfl
  | x :: xs => by
    simp only [List.cons_append, firstPre]
    split
    · rfl
    · exact firstPre_app l ys xs
theorem firstPre_len (l : List UInt8) (k : Nat) : ∀ xs : List (List UInt8), (∀ x ∈ xs, x.length = k) → firstPre l xs = if xs.contains (l.take k) = true then some (l.take k) else none
  | [], _ => rfl
  | x :: xs, h => by
    have hx := h x (by simp)
    have ih := firstPre_len l k xs fun y hy => h y (by simp [hy])
    simp only [firstPre, pre, hx, ih, List.contains_cons]
    by_cases e : l.take k = x
    · simp [e]
    · have : (l.take k == x) = false := by simp [e]
      rw [this]; simp
/-- The document's sign at the front: how many bytes it has. -/
def signL (l : List UInt8) : Nat := if twos.contains (l.take 2) = true then 2 else if ones.contains (l.getD 0 0) = true then 1 else 0
theorem signL_le {l : List UInt8} (hl : 0 < l.length) : signL l ≤ l.length := by
  unfold signL
  split
  · rename_i h
    have : ((l.take 2).length == 2) = true := by
      generalize l.take 2 = t at h
      simp only [twos, List.contains_cons, List.contains_nil, Bool.or_false, Bool.or_eq_true, beq_iff_eq] at h
      rcases h with rfl | rfl | rfl | rfl | rfl | rfl | rfl <;> rfl
    simp at this; omega
  · split <;> omega
theorem firstPre_signs {l : List UInt8} (hl : 0 < l.length) : firstPre l signs = if signL l = 0 then none else some (l.take (signL l)) := by
  rw [signs_eq, firstPre_app, firstPre_len l 2 twos (by decide), firstPre_len l 1 _ (by decide)]
  have e1 : (ones.map fun c => [c]).contains (l.take 1) = ones.contains (l.getD 0 0) := by
    cases l with
    | nil => simp at hl
    | cons c l =>
      rw [Bool.eq_iff_iff]
      simp
  rw [e1]
  have e2 : l.take 1 = [l.getD 0 0] := by
    cases l with
    | nil => simp at hl
    | cons c l => simp
  unfold signL
  cases twos.contains (l.take 2) with
  | true => simp
  | false =>
    cases ones.contains (l.getD 0 0) with
    | true => simp [e2]
    | false => simp

set_option maxHeartbeats 1000000 in
theorem sign_c (s : List UInt8) (a : Nat) (h1 : a < s.length) (h2 : s.length ≤ 100000) : PCall Try.prog 56 [.str s, .int .i64 a] (.int .i64 (signL (s.drop a))) := by
  refine PCall.run tb54_ok st56 (by simp) fun E => ?_
  have w1 : IntKind.i64.wrap ((a : Int) + 1) = ((a + 1 : Nat) : Int) := wrap_succ (by omega)
  have w2 : IntKind.i64.wrap ((a : Int) + 2) = ((a + 2 : Nat) : Int) := by rw [wrap_i64 (by omega) (by omega)]; omega
  have e0 : (s.drop a).getD 0 0 = s.getD a 0 := by simp [List.getD]
  have e2 : (s.drop a).take (a + 2 - a) = (s.drop a).take 2 := by rw [Nat.add_sub_cancel_left]
  have f2 : twos.contains ((s.drop a).take 2) = false → signL (s.drop a) = if ones.contains (s.getD a 0) = true then 1 else 0 := fun h => by simp only [signL, h, e0]; simp
  by_cases c1 : a + 1 < s.length
  · have g1 : (((a + 1 : Nat) : Int) < (s.length : Int)) = True := by simp; omega
    cases ht : twos.contains ((s.drop a).take 2) with
    | true =>
      have hs : signL (s.drop a) = 2 := by unfold signL; rw [if_pos ht]
      simp (config := {maxSteps := 1000000}) only [s56, g1, w1, w2, e2, hs, strEv, tb54_e, Int.natCast_nonneg, Nat.le_refl, Int.le_refl, List.take_succ_cons, List.take_zero, decide_true, decide_false, Bool.and_false, Bool.false_and, zz, zzN, ↓reduceIte, Nat.reduceEqDiff, Nat.reduceBEq, Int.reduceLT, Int.reduceLE, Int.reduceToNat, Int.reduceEq, Int.reduceAdd, Int.reduceSub, Int.reduceMul, Int.reduceNeg, Nat.reduceMul, Nat.reduceSub, Nat.reduceLeDiff, Nat.reduceLT, Int.reduceGT, Int.reduceBEq, Int.reduceBNe, reduceCtorEq, Nat.reduceAdd, Ins.map, Fr.ev, argFr, argE, binEv, intEv, shEv, strEv, unEv, Fr.mark, evRes, tup, lenD, lookupD, loadD, partD, storeD, cellsD, cellOk, setAt, objNe, objSame, eqEv, readEv, buildD, buildRows, rowsOf, elemsOf]
      refine fun _ => ⟨by omega, ?_⟩
      simp only [twos, List.contains_cons, List.contains_nil, Bool.or_false, Bool.or_eq_true] at ht
      clear hs f2 e2
      (repeat' split) <;> first | trivial | (exfalso; simp_all)
    | false =>
    have hs := f2 ht
    have ⟨t1, t2, t3, t4, t5, t6, t7⟩ : ((s.drop a).take 2 == [58, 61]) = false ∧ ((s.drop a).take 2 == [60, 61]) = false ∧ ((s.drop a).take 2 == [62, 61]) = false ∧ ((s.drop a).take 2 == [61, 61]) = false ∧ ((s.drop a).take 2 == [33, 61]) = false ∧ ((s.drop a).take 2 == [38, 38]) = false ∧ ((s.drop a).take 2 == [124, 124]) = false := by
      generalize (s.drop a).take 2 = t at ht
      simp only [twos, List.contains_cons, List.contains_nil, Bool.or_false, Bool.or_eq_false_iff] at ht
      exact ht
    simp (config := {maxSteps := 1000000}) only [s56, g1, w1, w2, e2, t1, t2, t3, t4, t5, t6, t7, strEv, tb54_e, Int.natCast_nonneg, Nat.le_refl, Int.le_refl, List.take_succ_cons, List.take_zero, decide_true, decide_false, Bool.and_false, Bool.false_and, zz, zzN, ↓reduceIte, Nat.reduceEqDiff, Nat.reduceBEq, Int.reduceLT, Int.reduceLE, Int.reduceToNat, Int.reduceEq, Int.reduceAdd, Int.reduceSub, Int.reduceMul, Int.reduceNeg, Nat.reduceMul, Nat.reduceSub, Nat.reduceLeDiff, Nat.reduceLT, Int.reduceGT, Int.reduceBEq, Int.reduceBNe, reduceCtorEq, Nat.reduceAdd, Ins.map, Fr.ev, argFr, argE, binEv, intEv, shEv, strEv, unEv, Fr.mark, evRes, tup, lenD, lookupD, loadD, partD, storeD, cellsD, cellOk, setAt, objNe, objSame, eqEv, readEv, buildD, buildRows, rowsOf, elemsOf]
    refine fun _ => ⟨by omega, ?_⟩
    refine run_loop (X := Nat) (fun j => [(0, .str s), (1, .int .i64 a), (6, .str ones), (7, .int .i64 j)]) (fun _ => AHeap.emp) (fun j => 15 - j)
      (fun j => j ≤ 15 ∧ (ones.drop j).contains (s.getD a 0) = ones.contains (s.getD a 0)) 0 (by simp) ?_ (AHeap.sub_refl _) ?_
    · simp only [ones, Int.natCast_nonneg, Nat.le_refl, Int.le_refl, List.take_succ_cons, List.take_zero, decide_true, decide_false, Bool.and_false, Bool.false_and, zz, zzN, ↓reduceIte, Nat.reduceEqDiff, Nat.reduceBEq, Int.reduceLT, Int.reduceLE, Int.reduceToNat, Int.reduceEq, Int.reduceAdd, Int.reduceSub, Int.reduceMul, Int.reduceNeg, Nat.reduceMul, Nat.reduceSub, Nat.reduceLeDiff, Nat.reduceLT, Int.reduceGT, Int.reduceBEq, Int.reduceBNe, reduceCtorEq, Nat.reduceAdd, Ins.map, Fr.ev, argFr, argE, binEv, intEv, shEv, strEv, unEv, Fr.mark, evRes, tup, lenD, lookupD, loadD, partD, storeD, cellsD, cellOk, setAt, objNe, objSame, eqEv, readEv, buildD, buildRows, rowsOf, elemsOf]
    rintro j Q ⟨k0, k1⟩ hQ
    have wj : IntKind.i64.wrap ((j : Int) + 1) = ((j + 1 : Nat) : Int) := wrap_succ (by omega)
    have lo : ones.length = 15 := rfl
    by_cases d1 : j < 15
    · have g5 : ((j : Int) < 15) = True := by simp; omega
      rw [drop_cons (by rw [lo]; exact d1), List.contains_cons] at k1
      cases d2 : (((ones.getD j 0).toNat : Int) == ((s.getD a 0).toNat : Int)) with
      | true =>
        have d3 : s.getD a 0 = ones.getD j 0 := by
          have := beq_iff_eq.1 d2
          exact (UInt8.toNat_inj.1 (by omega)).symm
        have d4 : (s.getD a 0 == ones.getD j 0) = true := by rw [d3]; simp
        rw [d4, Bool.true_or] at k1
        rw [← k1, if_pos rfl] at hs
        simp only [g5, lo, d2, hs, tb54_e, Int.natCast_nonneg, Nat.le_refl, Int.le_refl, List.take_succ_cons, List.take_zero, decide_true, decide_false, Bool.and_false, Bool.false_and, zz, zzN, ↓reduceIte, Nat.reduceEqDiff, Nat.reduceBEq, Int.reduceLT, Int.reduceLE, Int.reduceToNat, Int.reduceEq, Int.reduceAdd, Int.reduceSub, Int.reduceMul, Int.reduceNeg, Nat.reduceMul, Nat.reduceSub, Nat.reduceLeDiff, Nat.reduceLT, Int.reduceGT, Int.reduceBEq, Int.reduceBNe, reduceCtorEq, Nat.reduceAdd, Ins.map, Fr.ev, argFr, argE, binEv, intEv, shEv, strEv, unEv, Fr.mark, evRes, tup, lenD, lookupD, loadD, partD, storeD, cellsD, cellOk, setAt, objNe, objSame, eqEv, readEv, buildD, buildRows, rowsOf, elemsOf]
        omega
      | false =>
        have d4 : (s.getD a 0 == ones.getD j 0) = false := by
          rw [beq_eq_false_iff_ne]
          intro e; rw [e] at d2; simp at d2
        rw [d4, Bool.false_or] at k1
        simp only [g5, lo, wj, d2, tb54_e, Int.natCast_nonneg, Nat.le_refl, Int.le_refl, List.take_succ_cons, List.take_zero, decide_true, decide_false, Bool.and_false, Bool.false_and, zz, zzN, ↓reduceIte, Nat.reduceEqDiff, Nat.reduceBEq, Int.reduceLT, Int.reduceLE, Int.reduceToNat, Int.reduceEq, Int.reduceAdd, Int.reduceSub, Int.reduceMul, Int.reduceNeg, Nat.reduceMul, Nat.reduceSub, Nat.reduceLeDiff, Nat.reduceLT, Int.reduceGT, Int.reduceBEq, Int.reduceBNe, reduceCtorEq, Nat.reduceAdd, Ins.map, Fr.ev, argFr, argE, binEv, intEv, shEv, strEv, unEv, Fr.mark, evRes, tup, lenD, lookupD, loadD, partD, storeD, cellsD, cellOk, setAt, objNe, objSame, eqEv, readEv, buildD, buildRows, rowsOf, elemsOf]
        refine ⟨by omega, hQ (j + 1) _ _ ⟨by omega, k1⟩ ?_ (AHeap.sub_refl _) (by omega)⟩
        simp only [Int.natCast_nonneg, Nat.le_refl, Int.le_refl, List.take_succ_cons, List.take_zero, decide_true, decide_false, Bool.and_false, Bool.false_and, zz, zzN, ↓reduceIte, Nat.reduceEqDiff, Nat.reduceBEq, Int.reduceLT, Int.reduceLE, Int.reduceToNat, Int.reduceEq, Int.reduceAdd, Int.reduceSub, Int.reduceMul, Int.reduceNeg, Nat.reduceMul, Nat.reduceSub, Nat.reduceLeDiff, Nat.reduceLT, Int.reduceGT, Int.reduceBEq, Int.reduceBNe, reduceCtorEq, Nat.reduceAdd, Ins.map, Fr.ev, argFr, argE, binEv, intEv, shEv, strEv, unEv, Fr.mark, evRes, tup, lenD, lookupD, loadD, partD, storeD, cellsD, cellOk, setAt, objNe, objSame, eqEv, readEv, buildD, buildRows, rowsOf, elemsOf]
    · have g5 : ((j : Int) < 15) = False := by simp; omega
      have e : ones.drop j = [] := List.drop_of_length_le (by rw [lo]; omega)
      rw [e] at k1
      have k2 : ones.contains (s.getD a 0) = false := by rw [← k1]; rfl
      rw [k2] at hs
      simp only [Bool.false_eq_true, if_false] at hs
      simp only [g5, lo, hs, tb54_e, Int.natCast_nonneg, Nat.le_refl, Int.le_refl, List.take_succ_cons, List.take_zero, decide_true, decide_false, Bool.and_false, Bool.false_and, zz, zzN, ↓reduceIte, Nat.reduceEqDiff, Nat.reduceBEq, Int.reduceLT, Int.reduceLE, Int.reduceToNat, Int.reduceEq, Int.reduceAdd, Int.reduceSub, Int.reduceMul, Int.reduceNeg, Nat.reduceMul, Nat.reduceSub, Nat.reduceLeDiff, Nat.reduceLT, Int.reduceGT, Int.reduceBEq, Int.reduceBNe, reduceCtorEq, Nat.reduceAdd, Ins.map, Fr.ev, argFr, argE, binEv, intEv, shEv, strEv, unEv, Fr.mark, evRes, tup, lenD, lookupD, loadD, partD, storeD, cellsD, cellOk, setAt, objNe, objSame, eqEv, readEv, buildD, buildRows, rowsOf, elemsOf]
  · have g1 : (((a + 1 : Nat) : Int) < (s.length : Int)) = False := by simp; omega
    have hs := f2 (by
      have : ((s.drop a).take 2).length ≠ 2 := by simp; omega
      generalize (s.drop a).take 2 = t at this
      simp only [twos, List.contains_cons, List.contains_nil, Bool.or_false, Bool.or_eq_false_iff, beq_eq_false_iff_ne]
      refine ⟨?_, ?_, ?_, ?_, ?_, ?_, ?_⟩ <;> (rintro rfl; exact this rfl))
    simp (config := {maxSteps := 1000000}) only [s56, g1, w1, w2, e2, strEv, tb54_e, Int.natCast_nonneg, Nat.le_refl, Int.le_refl, List.take_succ_cons, List.take_zero, decide_true, decide_false, Bool.and_false, Bool.false_and, zz, zzN, ↓reduceIte, Nat.reduceEqDiff, Nat.reduceBEq, Int.reduceLT, Int.reduceLE, Int.reduceToNat, Int.reduceEq, Int.reduceAdd, Int.reduceSub, Int.reduceMul, Int.reduceNeg, Nat.reduceMul, Nat.reduceSub, Nat.reduceLeDiff, Nat.reduceLT, Int.reduceGT, Int.reduceBEq, Int.reduceBNe, reduceCtorEq, Nat.reduceAdd, Ins.map, Fr.ev, argFr, argE, binEv, intEv, shEv, strEv, unEv, Fr.mark, evRes, tup, lenD, lookupD, loadD, partD, storeD, cellsD, cellOk, setAt, objNe, objSame, eqEv, readEv, buildD, buildRows, rowsOf, elemsOf]
    intro _
    refine run_loop (X := Nat) (fun j => [(0, .str s), (1, .int .i64 a), (6, .str ones), (7, .int .i64 j)]) (fun _ => AHeap.emp) (fun j => 15 - j)
      (fun j => j ≤ 15 ∧ (ones.drop j).contains (s.getD a 0) = ones.contains (s.getD a 0)) 0 (by simp) ?_ (AHeap.sub_refl _) ?_
    · simp only [ones, Int.natCast_nonneg, Nat.le_refl, Int.le_refl, List.take_succ_cons, List.take_zero, decide_true, decide_false, Bool.and_false, Bool.false_and, zz, zzN, ↓reduceIte, Nat.reduceEqDiff, Nat.reduceBEq, Int.reduceLT, Int.reduceLE, Int.reduceToNat, Int.reduceEq, Int.reduceAdd, Int.reduceSub, Int.reduceMul, Int.reduceNeg, Nat.reduceMul, Nat.reduceSub, Nat.reduceLeDiff, Nat.reduceLT, Int.reduceGT, Int.reduceBEq, Int.reduceBNe, reduceCtorEq, Nat.reduceAdd, Ins.map, Fr.ev, argFr, argE, binEv, intEv, shEv, strEv, unEv, Fr.mark, evRes, tup, lenD, lookupD, loadD, partD, storeD, cellsD, cellOk, setAt, objNe, objSame, eqEv, readEv, buildD, buildRows, rowsOf, elemsOf]
    rintro j Q ⟨k0, k1⟩ hQ
    have wj : IntKind.i64.wrap ((j : Int) + 1) = ((j + 1 : Nat) : Int) := wrap_succ (by omega)
    have lo : ones.length = 15 := rfl
    by_cases d1 : j < 15
    · have g5 : ((j : Int) < 15) = True := by simp; omega
      rw [drop_cons (by rw [lo]; exact d1), List.contains_cons] at k1
      cases d2 : (((ones.getD j 0).toNat : Int) == ((s.getD a 0).toNat : Int)) with
      | true =>
        have d3 : s.getD a 0 = ones.getD j 0 := by
          have := beq_iff_eq.1 d2
          exact (UInt8.toNat_inj.1 (by omega)).symm
        have d4 : (s.getD a 0 == ones.getD j 0) = true := by rw [d3]; simp
        rw [d4, Bool.true_or] at k1
        rw [← k1, if_pos rfl] at hs
        simp only [g5, lo, d2, hs, tb54_e, Int.natCast_nonneg, Nat.le_refl, Int.le_refl, List.take_succ_cons, List.take_zero, decide_true, decide_false, Bool.and_false, Bool.false_and, zz, zzN, ↓reduceIte, Nat.reduceEqDiff, Nat.reduceBEq, Int.reduceLT, Int.reduceLE, Int.reduceToNat, Int.reduceEq, Int.reduceAdd, Int.reduceSub, Int.reduceMul, Int.reduceNeg, Nat.reduceMul, Nat.reduceSub, Nat.reduceLeDiff, Nat.reduceLT, Int.reduceGT, Int.reduceBEq, Int.reduceBNe, reduceCtorEq, Nat.reduceAdd, Ins.map, Fr.ev, argFr, argE, binEv, intEv, shEv, strEv, unEv, Fr.mark, evRes, tup, lenD, lookupD, loadD, partD, storeD, cellsD, cellOk, setAt, objNe, objSame, eqEv, readEv, buildD, buildRows, rowsOf, elemsOf]
        omega
      | false =>
        have d4 : (s.getD a 0 == ones.getD j 0) = false := by
          rw [beq_eq_false_iff_ne]
          intro e; rw [e] at d2; simp at d2
        rw [d4, Bool.false_or] at k1
        simp only [g5, lo, wj, d2, tb54_e, Int.natCast_nonneg, Nat.le_refl, Int.le_refl, List.take_succ_cons, List.take_zero, decide_true, decide_false, Bool.and_false, Bool.false_and, zz, zzN, ↓reduceIte, Nat.reduceEqDiff, Nat.reduceBEq, Int.reduceLT, Int.reduceLE, Int.reduceToNat, Int.reduceEq, Int.reduceAdd, Int.reduceSub, Int.reduceMul, Int.reduceNeg, Nat.reduceMul, Nat.reduceSub, Nat.reduceLeDiff, Nat.reduceLT, Int.reduceGT, Int.reduceBEq, Int.reduceBNe, reduceCtorEq, Nat.reduceAdd, Ins.map, Fr.ev, argFr, argE, binEv, intEv, shEv, strEv, unEv, Fr.mark, evRes, tup, lenD, lookupD, loadD, partD, storeD, cellsD, cellOk, setAt, objNe, objSame, eqEv, readEv, buildD, buildRows, rowsOf, elemsOf]
        refine ⟨by omega, hQ (j + 1) _ _ ⟨by omega, k1⟩ ?_ (AHeap.sub_refl _) (by omega)⟩
        simp only [Int.natCast_nonneg, Nat.le_refl, Int.le_refl, List.take_succ_cons, List.take_zero, decide_true, decide_false, Bool.and_false, Bool.false_and, zz, zzN, ↓reduceIte, Nat.reduceEqDiff, Nat.reduceBEq, Int.reduceLT, Int.reduceLE, Int.reduceToNat, Int.reduceEq, Int.reduceAdd, Int.reduceSub, Int.reduceMul, Int.reduceNeg, Nat.reduceMul, Nat.reduceSub, Nat.reduceLeDiff, Nat.reduceLT, Int.reduceGT, Int.reduceBEq, Int.reduceBNe, reduceCtorEq, Nat.reduceAdd, Ins.map, Fr.ev, argFr, argE, binEv, intEv, shEv, strEv, unEv, Fr.mark, evRes, tup, lenD, lookupD, loadD, partD, storeD, cellsD, cellOk, setAt, objNe, objSame, eqEv, readEv, buildD, buildRows, rowsOf, elemsOf]
    · have g5 : ((j : Int) < 15) = False := by simp; omega
      have e : ones.drop j = [] := List.drop_of_length_le (by rw [lo]; omega)
      rw [e] at k1
      have k2 : ones.contains (s.getD a 0) = false := by rw [← k1]; rfl
      rw [k2] at hs
      simp only [Bool.false_eq_true, if_false] at hs
      simp only [g5, lo, hs, tb54_e, Int.natCast_nonneg, Nat.le_refl, Int.le_refl, List.take_succ_cons, List.take_zero, decide_true, decide_false, Bool.and_false, Bool.false_and, zz, zzN, ↓reduceIte, Nat.reduceEqDiff, Nat.reduceBEq, Int.reduceLT, Int.reduceLE, Int.reduceToNat, Int.reduceEq, Int.reduceAdd, Int.reduceSub, Int.reduceMul, Int.reduceNeg, Nat.reduceMul, Nat.reduceSub, Nat.reduceLeDiff, Nat.reduceLT, Int.reduceGT, Int.reduceBEq, Int.reduceBNe, reduceCtorEq, Nat.reduceAdd, Ins.map, Fr.ev, argFr, argE, binEv, intEv, shEv, strEv, unEv, Fr.mark, evRes, tup, lenD, lookupD, loadD, partD, storeD, cellsD, cellOk, setAt, objNe, objSame, eqEv, readEv, buildD, buildRows, rowsOf, elemsOf]
theorem sign_c' (s : List UInt8) (a : Int) (h : 0 ≤ a ∧ a < s.length ∧ s.length ≤ 100000) : PCall Try.prog 56 [.str s, .int .i64 a] (.int .i64 (signL (s.drop a.toNat))) := by
  have := sign_c s a.toNat (by omega) h.2.2
  rwa [Int.toNat_of_nonneg h.1] at this
def q56 : List D → Option D
  | [.str s, .int .i64 a] => if 0 ≤ a ∧ a < s.length ∧ s.length ≤ 100000 then some (.int .i64 (signL (s.drop a.toNat))) else none
  | _ => none
theorem q56_ok (args : List D) (d : D) (h : q56 args = some d) : PCall Try.prog 56 args d := by
  unfold q56 at h
  split at h
  · split at h
    · cases h; exact sign_c' _ _ (by assumption)
    · cases h
  · cases h

def tb56 : Tab := tb54.addQ 56 q56
theorem tb56_q (g : FuncId) (args : List D) : tb56.q g args = if g = 56 then q56 args else tb54.q g args := rfl
theorem tb56_a : tb56.a = tb54.a := rfl
theorem tb56_c : tb56.c = tb54.c := rfl
theorem tb56_ok : tb56.ok Try.prog := Tab.addQ_ok tb54_ok q56_ok
theorem tb56_e : type_of% (And.intro (And.intro @tb56_q (And.intro @tb56_a @tb56_c)) @tb54_e) := (And.intro (And.intro @tb56_q (And.intro @tb56_a @tb56_c)) @tb54_e)


set_option maxHeartbeats 2000000 in
theorem rTokens_c (s : List UInt8) : PCall Try.prog 24 [.str s] (.tuple [.sl (encT (tokens s).1), .int .i64 (tokens s).2.1, .int .i64 (tokens s).2.2]) := by
  refine PCall.run tb56_ok st24 (by simp) fun E => ?_
  unfold tokens
  by_cases c0 : 4096 < s.length
  · have g1 : ((s.length : Int) > 4096) = True := by simp; omega
    simp only [c0, s24, g1, encT_nil, decide_true, tb56_e, zz, zzN, ↓reduceIte, Nat.reduceEqDiff, Nat.reduceBEq, Int.reduceLT, Int.reduceLE, Int.reduceToNat, Int.reduceEq, Int.reduceAdd, Int.reduceSub, Int.reduceMul, Int.reduceNeg, Nat.reduceMul, Nat.reduceSub, Nat.reduceLeDiff, Nat.reduceLT, Int.reduceGT, Int.reduceBEq, Int.reduceBNe, reduceCtorEq, Nat.reduceAdd, Ins.map, Fr.ev, argFr, argE, binEv, intEv, shEv, strEv, unEv, Fr.mark, evRes, tup, lenD, lookupD, loadD, partD, storeD, cellsD, cellOk, setAt, objNe, objSame, eqEv, readEv, buildD, buildRows, rowsOf, elemsOf]
  · have h2 : s.length ≤ 1000000 := by omega
    have g1 : ((s.length : Int) > 4096) = False := by simp; omega
    have g2 : (s.length ≤ 1000000) = True := by simp; omega
    have g2' : (s.length ≤ 100000) = True := by simp; omega
    have z1 : (0 : Int) + (blankL s : Int) = (blankL s : Int) := by omega
    simp only [c0, s24, g1, g2, q52, z1, tb56_e, Int.natCast_nonneg, Nat.le_refl, Int.le_refl, List.take_succ_cons, List.take_zero, decide_true, decide_false, Bool.and_false, Bool.false_and, zz, zzN, ↓reduceIte, Nat.reduceEqDiff, Nat.reduceBEq, Int.reduceLT, Int.reduceLE, Int.reduceToNat, Int.reduceEq, Int.reduceAdd, Int.reduceSub, Int.reduceMul, Int.reduceNeg, Nat.reduceMul, Nat.reduceSub, Nat.reduceLeDiff, Nat.reduceLT, Int.reduceGT, Int.reduceBEq, Int.reduceBNe, reduceCtorEq, Nat.reduceAdd, Ins.map, Fr.ev, argFr, argE, binEv, intEv, shEv, strEv, unEv, Fr.mark, evRes, tup, lenD, lookupD, loadD, partD, storeD, cellsD, cellOk, setAt, objNe, objSame, eqEv, readEv, buildD, buildRows, rowsOf, elemsOf]
    intro _ r
    generalize hR : toksN (s.length + 1) (blankL s) (s.drop (blankL s)) [] = R
    refine run_loop (X := Nat × List Tok × Nat) (fun x => [(0, .str s), (5, .row r (x.2.1.length + 2) 0 x.2.1.length), (6, .int .i64 x.1)])
      (fun x => AHeap.emp.set r (.row 3 (x.2.1.length + 2) (encT x.2.1) false)) (fun x => x.2.2)
      (fun x => x.1 ≤ s.length ∧ x.2.1.length ≤ x.1 ∧ s.length < x.1 + x.2.2 ∧ toksN x.2.2 x.1 (s.drop x.1) x.2.1 = R) (blankL s, [], s.length + 1) ⟨blankL_le _, by simp, by simp; omega, hR⟩ ?_ ?_ ?_
    · simp only [Int.natCast_nonneg, Nat.le_refl, Int.le_refl, List.take_succ_cons, List.take_zero, decide_true, decide_false, Bool.and_false, Bool.false_and, zz, zzN, ↓reduceIte, Nat.reduceEqDiff, Nat.reduceBEq, Int.reduceLT, Int.reduceLE, Int.reduceToNat, Int.reduceEq, Int.reduceAdd, Int.reduceSub, Int.reduceMul, Int.reduceNeg, Nat.reduceMul, Nat.reduceSub, Nat.reduceLeDiff, Nat.reduceLT, Int.reduceGT, Int.reduceBEq, Int.reduceBNe, reduceCtorEq, Nat.reduceAdd, Ins.map, Fr.ev, argFr, argE, binEv, intEv, shEv, strEv, unEv, Fr.mark, evRes, tup, lenD, lookupD, loadD, partD, storeD, cellsD, cellOk, setAt, objNe, objSame, eqEv, readEv, buildD, buildRows, rowsOf, elemsOf]
    · exact AHeap.sub_refl _
    · rintro ⟨p, out, n⟩ Q ⟨i1, i2, i3, i4⟩ hQ
      simp only at i1 i2 i3 i4 hQ ⊢
      obtain ⟨n, rfl⟩ : ∃ n', n = n' + 1 := ⟨n - 1, by omega⟩
      simp only [toksN] at i4
      by_cases c1 : p < s.length
      · have hne : s.drop p ≠ [] := by simp; omega
        rw [if_neg hne] at i4
        have g4 : ((p : Int) < (s.length : Int)) = True := by simp; omega
        have e0 : (s.drop p).getD 0 0 = s.getD p 0 := by simp [List.getD]
        -- what stands behind a word
        have fin : ∀ (kd : Int) (k : Nat) (σ : Fr) (h' : AHeap), (oneL (s.drop p)) = (kd, (s.drop p).take k, true) → k ≤ s.length - p →
            leL [(0, .str s), (5, .row r (out.length + 2 + 1) 0 (out.length + 1)), (6, .int .i64 (p + k + blankL ((s.drop p).drop k) : Nat))] σ →
            (AHeap.emp.set r (.row 3 (out.length + 2 + 1) (encT (out ++ [(kd, (s.drop p).take k, (p : Int))])) false)).sub h' → Q σ h' := fun kd k σ h' ho hk hl hs => by
          have b := oneL_ok (l := s.drop p) (by simp; omega) (by rw [ho])
          rw [ho] at i4 b
          have lk : ((s.drop p).take k).length = k := by simp; omega
          have lb := blankL_le ((s.drop p).drop k)
          simp only [List.length_drop] at lb
          simp only [lk, reduceCtorEq, if_false] at i4 b
          have e9 : out.length + 1 + 2 = out.length + 2 + 1 := by omega
          refine hQ (p + k + blankL ((s.drop p).drop k), out ++ [(kd, (s.drop p).take k, (p : Int))], n) _ _ ⟨by simp only; omega, by simp only [List.length_append, List.length_singleton]; omega, by simp only; omega, ?_⟩ ?_ ?_ (Nat.lt_succ_self n)
          · simp only
            rw [← i4, List.drop_drop, Nat.add_assoc, List.drop_drop]
          · simp only [List.length_append, List.length_singleton, e9]; exact hl
          · simp only [List.length_append, List.length_singleton, e9]; exact hs
        have bad : (oneL (s.drop p)).2.2 = false → R = ([], p, 90) := fun h => by rw [if_pos h] at i4; exact i4.symm
        cases c2 : isDigit ((s.getD p 0).toNat : Int) with
        | true =>
          have ho : oneL (s.drop p) = numL (s.drop p) := by unfold oneL; rw [e0, if_pos c2]
          cases c3 : (numL (s.drop p)).2.2 with
          | false =>
            have k0 : rNumL (s.drop p) = (0, (numL (s.drop p)).2.1.length) := by simp [rNumL, c3]
            have hb := bad (by rw [ho]; exact c3)
            subst hb
            simp (config := {maxSteps := 1000000}) only [k0, g2', g4, c2, encT_nil, q53, q54, tb56_e, Int.natCast_nonneg, Nat.le_refl, Int.le_refl, List.take_succ_cons, List.take_zero, decide_true, decide_false, Bool.and_false, Bool.false_and, zz, zzN, ↓reduceIte, Nat.reduceEqDiff, Nat.reduceBEq, Int.reduceLT, Int.reduceLE, Int.reduceToNat, Int.reduceEq, Int.reduceAdd, Int.reduceSub, Int.reduceMul, Int.reduceNeg, Nat.reduceMul, Nat.reduceSub, Nat.reduceLeDiff, Nat.reduceLT, Int.reduceGT, Int.reduceBEq, Int.reduceBNe, reduceCtorEq, Nat.reduceAdd, Ins.map, Fr.ev, argFr, argE, binEv, intEv, shEv, strEv, unEv, Fr.mark, evRes, tup, lenD, lookupD, loadD, partD, storeD, cellsD, cellOk, setAt, objNe, objSame, eqEv, readEv, buildD, buildRows, rowsOf, elemsOf]
          | true =>
            have k0 : rNumL (s.drop p) = ((numL (s.drop p)).1, (numL (s.drop p)).2.1.length) := by simp [rNumL, c3]
            have b := oneL_ok (l := s.drop p) (by simp; omega) (by rw [ho]; exact c3)
            rw [ho] at b
            obtain ⟨b1, b2, b3, b4⟩ := b
            have ho2 : oneL (s.drop p) = ((numL (s.drop p)).1, (s.drop p).take (numL (s.drop p)).2.1.length, true) := by rw [← b3, ho, ← c3]
            obtain ⟨k, hk⟩ : ∃ k, k = (numL (s.drop p)).2.1.length := ⟨_, rfl⟩
            obtain ⟨kd, hkd⟩ : ∃ kd, kd = (numL (s.drop p)).1 := ⟨_, rfl⟩
            rw [← hk, ← hkd] at k0 ho2
            rw [← hk, List.length_drop] at b2
            rw [← hkd] at b4
            have gk : (kd == 0) = false := by simp; exact b4
            have lb := blankL_le ((s.drop p).drop (k))
            rw [List.length_drop, List.length_drop] at lb
            have eb : s.drop (p + k) = (s.drop p).drop (k) := by rw [List.drop_drop]
            have w2 : ((p + k : Nat) : Int) + (blankL ((s.drop p).drop (k)) : Int) = ((p + k + blankL ((s.drop p).drop (k)) : Nat) : Int) := by omega
            have w3 : (p : Int) + (k : Nat) = ((p + k : Nat) : Int) := by omega
            have g6 : (((p + k : Nat) : Int) ≤ (s.length : Int)) = True := by simp; omega
            have ek : p + k - p = k := by omega
            have a1 : (encT out).length = out.length := len_encT
            have h3 : ∀ x : List UInt8, (∀ y ∈ [[D.int .i64 kd, D.str x, D.int .i64 (p : Int)]], y.length = 3 ∧ y.all cellOk = true) := by simp [cellOk]
            simp (config := {maxSteps := 1000000}) only [k0, gk, g2, g2', g4, c2, g6, ek, eb, w2, w3, a1, h3, tokD, encT_app, strEv, q52, q53, q55, q41, q56, q54, tb56_e, Int.natCast_nonneg, Nat.le_refl, Int.le_refl, List.take_succ_cons, List.take_zero, decide_true, decide_false, Bool.and_false, Bool.false_and, zz, zzN, ↓reduceIte, Nat.reduceEqDiff, Nat.reduceBEq, Int.reduceLT, Int.reduceLE, Int.reduceToNat, Int.reduceEq, Int.reduceAdd, Int.reduceSub, Int.reduceMul, Int.reduceNeg, Nat.reduceMul, Nat.reduceSub, Nat.reduceLeDiff, Nat.reduceLT, Int.reduceGT, Int.reduceBEq, Int.reduceBNe, reduceCtorEq, Nat.reduceAdd, Ins.map, Fr.ev, argFr, argE, binEv, intEv, shEv, strEv, unEv, Fr.mark, evRes, tup, lenD, lookupD, loadD, partD, storeD, cellsD, cellOk, setAt, objNe, objSame, eqEv, readEv, buildD, buildRows, rowsOf, elemsOf]
            repeat (first | intro _ | refine And.intro (by omega) ?_)
            refine fin kd (k) _ _ ho2 (by omega) ?_ (AHeap.sub_refl _)
            simp only [Int.natCast_nonneg, Nat.le_refl, Int.le_refl, List.take_succ_cons, List.take_zero, decide_true, decide_false, Bool.and_false, Bool.false_and, zz, zzN, ↓reduceIte, Nat.reduceEqDiff, Nat.reduceBEq, Int.reduceLT, Int.reduceLE, Int.reduceToNat, Int.reduceEq, Int.reduceAdd, Int.reduceSub, Int.reduceMul, Int.reduceNeg, Nat.reduceMul, Nat.reduceSub, Nat.reduceLeDiff, Nat.reduceLT, Int.reduceGT, Int.reduceBEq, Int.reduceBNe, reduceCtorEq, Nat.reduceAdd, Ins.map, Fr.ev, argFr, argE, binEv, intEv, shEv, strEv, unEv, Fr.mark, evRes, tup, lenD, lookupD, loadD, partD, storeD, cellsD, cellOk, setAt, objNe, objSame, eqEv, readEv, buildD, buildRows, rowsOf, elemsOf]
        | false =>
        cases c3 : isLetter ((s.getD p 0).toNat : Int) with
        | true =>
          obtain ⟨m, hm⟩ : ∃ m, m = spn nameP (s.drop p) := ⟨_, rfl⟩
          have hl := spn_le nameP (s.drop p)
          rw [List.length_drop, ← hm] at hl
          simp (config := {maxSteps := 1000000}) only [g4, c2, c3, q53, q55, tb56_e, Int.natCast_nonneg, Nat.le_refl, Int.le_refl, List.take_succ_cons, List.take_zero, decide_true, decide_false, Bool.and_false, Bool.false_and, zz, zzN, ↓reduceIte, Nat.reduceEqDiff, Nat.reduceBEq, Int.reduceLT, Int.reduceLE, Int.reduceToNat, Int.reduceEq, Int.reduceAdd, Int.reduceSub, Int.reduceMul, Int.reduceNeg, Nat.reduceMul, Nat.reduceSub, Nat.reduceLeDiff, Nat.reduceLT, Int.reduceGT, Int.reduceBEq, Int.reduceBNe, reduceCtorEq, Nat.reduceAdd, Ins.map, Fr.ev, argFr, argE, binEv, intEv, shEv, strEv, unEv, Fr.mark, evRes, tup, lenD, lookupD, loadD, partD, storeD, cellsD, cellOk, setAt, objNe, objSame, eqEv, readEv, buildD, buildRows, rowsOf, elemsOf]
          intro _
          refine run_loop (X := Nat) (fun j => [(0, .str s), (5, .row r (out.length + 2) 0 out.length), (6, .int .i64 p), (7, .int .i64 0), (8, .int .i64 j)]) (fun _ => AHeap.emp.set r (.row 3 (out.length + 2) (encT out) false)) (fun j => s.length - j)
            (fun j => p ≤ j ∧ j ≤ s.length ∧ j + spn nameP (s.drop j) = p + m) p (by simp; omega) ?_ (AHeap.sub_refl _) ?_
          · simp only [Int.natCast_nonneg, Nat.le_refl, Int.le_refl, List.take_succ_cons, List.take_zero, decide_true, decide_false, Bool.and_false, Bool.false_and, zz, zzN, ↓reduceIte, Nat.reduceEqDiff, Nat.reduceBEq, Int.reduceLT, Int.reduceLE, Int.reduceToNat, Int.reduceEq, Int.reduceAdd, Int.reduceSub, Int.reduceMul, Int.reduceNeg, Nat.reduceMul, Nat.reduceSub, Nat.reduceLeDiff, Nat.reduceLT, Int.reduceGT, Int.reduceBEq, Int.reduceBNe, reduceCtorEq, Nat.reduceAdd, Ins.map, Fr.ev, argFr, argE, binEv, intEv, shEv, strEv, unEv, Fr.mark, evRes, tup, lenD, lookupD, loadD, partD, storeD, cellsD, cellOk, setAt, objNe, objSame, eqEv, readEv, buildD, buildRows, rowsOf, elemsOf]
          rintro j Q2 ⟨k0, k1, k2⟩ hQ2
          have wj : IntKind.i64.wrap ((j : Int) + 1) = ((j + 1 : Nat) : Int) := wrap_succ (by omega)
          by_cases go : j < s.length ∧ nameP ((s.getD j 0).toNat : Int) = true
          · obtain ⟨d1, d2⟩ := go
            have g5 : ((j : Int) < (s.length : Int)) = True := by simp; omega
            rw [drop_cons d1, spn_cons, if_pos d2] at k2
            cases d3 : isLetter ((s.getD j 0).toNat : Int) with
            | true =>
              simp only [g5, wj, d3, q53, q55, tb56_e, Int.natCast_nonneg, Nat.le_refl, Int.le_refl, List.take_succ_cons, List.take_zero, decide_true, decide_false, Bool.and_false, Bool.false_and, zz, zzN, ↓reduceIte, Nat.reduceEqDiff, Nat.reduceBEq, Int.reduceLT, Int.reduceLE, Int.reduceToNat, Int.reduceEq, Int.reduceAdd, Int.reduceSub, Int.reduceMul, Int.reduceNeg, Nat.reduceMul, Nat.reduceSub, Nat.reduceLeDiff, Nat.reduceLT, Int.reduceGT, Int.reduceBEq, Int.reduceBNe, reduceCtorEq, Nat.reduceAdd, Ins.map, Fr.ev, argFr, argE, binEv, intEv, shEv, strEv, unEv, Fr.mark, evRes, tup, lenD, lookupD, loadD, partD, storeD, cellsD, cellOk, setAt, objNe, objSame, eqEv, readEv, buildD, buildRows, rowsOf, elemsOf]
              refine fun _ => hQ2 (j + 1) _ _ ⟨by omega, by omega, by omega⟩ ?_ (AHeap.sub_refl _) (by omega)
              simp only [Int.natCast_nonneg, Nat.le_refl, Int.le_refl, List.take_succ_cons, List.take_zero, decide_true, decide_false, Bool.and_false, Bool.false_and, zz, zzN, ↓reduceIte, Nat.reduceEqDiff, Nat.reduceBEq, Int.reduceLT, Int.reduceLE, Int.reduceToNat, Int.reduceEq, Int.reduceAdd, Int.reduceSub, Int.reduceMul, Int.reduceNeg, Nat.reduceMul, Nat.reduceSub, Nat.reduceLeDiff, Nat.reduceLT, Int.reduceGT, Int.reduceBEq, Int.reduceBNe, reduceCtorEq, Nat.reduceAdd, Ins.map, Fr.ev, argFr, argE, binEv, intEv, shEv, strEv, unEv, Fr.mark, evRes, tup, lenD, lookupD, loadD, partD, storeD, cellsD, cellOk, setAt, objNe, objSame, eqEv, readEv, buildD, buildRows, rowsOf, elemsOf]
            | false =>
              have d4 : isDigit ((s.getD j 0).toNat : Int) = true := by rw [nameP, d3, Bool.false_or] at d2; exact d2
              simp only [g5, wj, d3, d4, q53, q55, tb56_e, Int.natCast_nonneg, Nat.le_refl, Int.le_refl, List.take_succ_cons, List.take_zero, decide_true, decide_false, Bool.and_false, Bool.false_and, zz, zzN, ↓reduceIte, Nat.reduceEqDiff, Nat.reduceBEq, Int.reduceLT, Int.reduceLE, Int.reduceToNat, Int.reduceEq, Int.reduceAdd, Int.reduceSub, Int.reduceMul, Int.reduceNeg, Nat.reduceMul, Nat.reduceSub, Nat.reduceLeDiff, Nat.reduceLT, Int.reduceGT, Int.reduceBEq, Int.reduceBNe, reduceCtorEq, Nat.reduceAdd, Ins.map, Fr.ev, argFr, argE, binEv, intEv, shEv, strEv, unEv, Fr.mark, evRes, tup, lenD, lookupD, loadD, partD, storeD, cellsD, cellOk, setAt, objNe, objSame, eqEv, readEv, buildD, buildRows, rowsOf, elemsOf]
              refine fun _ => hQ2 (j + 1) _ _ ⟨by omega, by omega, by omega⟩ ?_ (AHeap.sub_refl _) (by omega)
              simp only [Int.natCast_nonneg, Nat.le_refl, Int.le_refl, List.take_succ_cons, List.take_zero, decide_true, decide_false, Bool.and_false, Bool.false_and, zz, zzN, ↓reduceIte, Nat.reduceEqDiff, Nat.reduceBEq, Int.reduceLT, Int.reduceLE, Int.reduceToNat, Int.reduceEq, Int.reduceAdd, Int.reduceSub, Int.reduceMul, Int.reduceNeg, Nat.reduceMul, Nat.reduceSub, Nat.reduceLeDiff, Nat.reduceLT, Int.reduceGT, Int.reduceBEq, Int.reduceBNe, reduceCtorEq, Nat.reduceAdd, Ins.map, Fr.ev, argFr, argE, binEv, intEv, shEv, strEv, unEv, Fr.mark, evRes, tup, lenD, lookupD, loadD, partD, storeD, cellsD, cellOk, setAt, objNe, objSame, eqEv, readEv, buildD, buildRows, rowsOf, elemsOf]
          by_cases d1 : j < s.length
          · have g5 : ((j : Int) < (s.length : Int)) = True := by simp; omega
            have d2 : nameP ((s.getD j 0).toNat : Int) = false := by simpa [d1] using go
            rw [drop_cons d1, spn_cons, if_neg (by rw [d2]; exact Bool.false_ne_true)] at k2
            have d3 : isLetter ((s.getD j 0).toNat : Int) = false := by simp [nameP] at d2; exact d2.1
            have d4 : isDigit ((s.getD j 0).toNat : Int) = false := by simp [nameP] at d2; exact d2.2
            have hj : j = p + m := by omega
            subst hj
            have ws : IntKind.i64.wrap (((p + m : Nat) : Int) - (p : Int)) = (m : Int) := by rw [wrap_i64 (by omega) (by omega)]; omega
            cases c5 : words.contains ((s.drop p).take m) with
            | true =>
              have ho : oneL (s.drop p) = (4, (s.drop p).take m, true) := by unfold oneL; rw [e0, if_neg (by rw [c2]; exact Bool.false_ne_true), if_pos c3, ← hm, if_pos c5]
              have lb := blankL_le ((s.drop p).drop (m))
              rw [List.length_drop, List.length_drop] at lb
              have eb : s.drop (p + m) = (s.drop p).drop (m) := by rw [List.drop_drop]
              have w2 : ((p + m : Nat) : Int) + (blankL ((s.drop p).drop (m)) : Int) = ((p + m + blankL ((s.drop p).drop (m)) : Nat) : Int) := by omega
              have w3 : (p : Int) + (m : Nat) = ((p + m : Nat) : Int) := by omega
              have g6 : (((p + m : Nat) : Int) ≤ (s.length : Int)) = True := by simp; omega
              have ek : p + m - p = m := by omega
              have a1 : (encT out).length = out.length := len_encT
              have h3 : ∀ x : List UInt8, (∀ y ∈ [[D.int .i64 4, D.str x, D.int .i64 (p : Int)]], y.length = 3 ∧ y.all cellOk = true) := by simp [cellOk]
              simp (config := {maxSteps := 1000000}) only [c3, c5, wj, g5, d3, d4, g2, g2', g4, c2, g6, ek, eb, w2, w3, a1, h3, tokD, encT_app, strEv, q52, q53, q55, q41, q56, q54, tb56_e, Int.natCast_nonneg, Nat.le_refl, Int.le_refl, List.take_succ_cons, List.take_zero, decide_true, decide_false, Bool.and_false, Bool.false_and, zz, zzN, ↓reduceIte, Nat.reduceEqDiff, Nat.reduceBEq, Int.reduceLT, Int.reduceLE, Int.reduceToNat, Int.reduceEq, Int.reduceAdd, Int.reduceSub, Int.reduceMul, Int.reduceNeg, Nat.reduceMul, Nat.reduceSub, Nat.reduceLeDiff, Nat.reduceLT, Int.reduceGT, Int.reduceBEq, Int.reduceBNe, reduceCtorEq, Nat.reduceAdd, Ins.map, Fr.ev, argFr, argE, binEv, intEv, shEv, strEv, unEv, Fr.mark, evRes, tup, lenD, lookupD, loadD, partD, storeD, cellsD, cellOk, setAt, objNe, objSame, eqEv, readEv, buildD, buildRows, rowsOf, elemsOf]
              repeat (first | intro _ | refine And.intro (by omega) ?_)
              refine fin 4 (m) _ _ ho (by omega) ?_ (AHeap.sub_refl _)
              simp only [Int.natCast_nonneg, Nat.le_refl, Int.le_refl, List.take_succ_cons, List.take_zero, decide_true, decide_false, Bool.and_false, Bool.false_and, zz, zzN, ↓reduceIte, Nat.reduceEqDiff, Nat.reduceBEq, Int.reduceLT, Int.reduceLE, Int.reduceToNat, Int.reduceEq, Int.reduceAdd, Int.reduceSub, Int.reduceMul, Int.reduceNeg, Nat.reduceMul, Nat.reduceSub, Nat.reduceLeDiff, Nat.reduceLT, Int.reduceGT, Int.reduceBEq, Int.reduceBNe, reduceCtorEq, Nat.reduceAdd, Ins.map, Fr.ev, argFr, argE, binEv, intEv, shEv, strEv, unEv, Fr.mark, evRes, tup, lenD, lookupD, loadD, partD, storeD, cellsD, cellOk, setAt, objNe, objSame, eqEv, readEv, buildD, buildRows, rowsOf, elemsOf]
            | false =>
              by_cases c6 : m ≤ 16
              · have g16 : ((m : Int) ≤ 16) = True := by simp; omega
                have ho : oneL (s.drop p) = (1, (s.drop p).take m, true) := by unfold oneL; rw [e0, if_neg (by rw [c2]; exact Bool.false_ne_true), if_pos c3, ← hm, if_neg (by rw [c5]; exact Bool.false_ne_true), decide_eq_true c6]
                have lb := blankL_le ((s.drop p).drop (m))
                rw [List.length_drop, List.length_drop] at lb
                have eb : s.drop (p + m) = (s.drop p).drop (m) := by rw [List.drop_drop]
                have w2 : ((p + m : Nat) : Int) + (blankL ((s.drop p).drop (m)) : Int) = ((p + m + blankL ((s.drop p).drop (m)) : Nat) : Int) := by omega
                have w3 : (p : Int) + (m : Nat) = ((p + m : Nat) : Int) := by omega
                have g6 : (((p + m : Nat) : Int) ≤ (s.length : Int)) = True := by simp; omega
                have ek : p + m - p = m := by omega
                have a1 : (encT out).length = out.length := len_encT
                have h3 : ∀ x : List UInt8, (∀ y ∈ [[D.int .i64 1, D.str x, D.int .i64 (p : Int)]], y.length = 3 ∧ y.all cellOk = true) := by simp [cellOk]
                simp (config := {maxSteps := 1000000}) only [c3, c5, wj, ws, g16, g5, d3, d4, g2, g2', g4, c2, g6, ek, eb, w2, w3, a1, h3, tokD, encT_app, strEv, q52, q53, q55, q41, q56, q54, tb56_e, Int.natCast_nonneg, Nat.le_refl, Int.le_refl, List.take_succ_cons, List.take_zero, decide_true, decide_false, Bool.and_false, Bool.false_and, zz, zzN, ↓reduceIte, Nat.reduceEqDiff, Nat.reduceBEq, Int.reduceLT, Int.reduceLE, Int.reduceToNat, Int.reduceEq, Int.reduceAdd, Int.reduceSub, Int.reduceMul, Int.reduceNeg, Nat.reduceMul, Nat.reduceSub, Nat.reduceLeDiff, Nat.reduceLT, Int.reduceGT, Int.reduceBEq, Int.reduceBNe, reduceCtorEq, Nat.reduceAdd, Ins.map, Fr.ev, argFr, argE, binEv, intEv, shEv, strEv, unEv, Fr.mark, evRes, tup, lenD, lookupD, loadD, partD, storeD, cellsD, cellOk, setAt, objNe, objSame, eqEv, readEv, buildD, buildRows, rowsOf, elemsOf]
                repeat (first | intro _ | refine And.intro (by omega) ?_)
                refine fin 1 (m) _ _ ho (by omega) ?_ (AHeap.sub_refl _)
                simp only [Int.natCast_nonneg, Nat.le_refl, Int.le_refl, List.take_succ_cons, List.take_zero, decide_true, decide_false, Bool.and_false, Bool.false_and, zz, zzN, ↓reduceIte, Nat.reduceEqDiff, Nat.reduceBEq, Int.reduceLT, Int.reduceLE, Int.reduceToNat, Int.reduceEq, Int.reduceAdd, Int.reduceSub, Int.reduceMul, Int.reduceNeg, Nat.reduceMul, Nat.reduceSub, Nat.reduceLeDiff, Nat.reduceLT, Int.reduceGT, Int.reduceBEq, Int.reduceBNe, reduceCtorEq, Nat.reduceAdd, Ins.map, Fr.ev, argFr, argE, binEv, intEv, shEv, strEv, unEv, Fr.mark, evRes, tup, lenD, lookupD, loadD, partD, storeD, cellsD, cellOk, setAt, objNe, objSame, eqEv, readEv, buildD, buildRows, rowsOf, elemsOf]
              · have g16 : ((m : Int) ≤ 16) = False := by simp; omega
                have hb := bad (by unfold oneL; rw [e0, if_neg (by rw [c2]; exact Bool.false_ne_true), if_pos c3, ← hm, if_neg (by rw [c5]; exact Bool.false_ne_true), decide_eq_false c6])
                subst hb
                have ek : p + m - p = m := by omega
                simp (config := {maxSteps := 1000000}) only [c2, c3, c5, wj, ws, g16, ek, g5, d3, d4, encT_nil, q53, q55, q41, tb56_e, Int.natCast_nonneg, Nat.le_refl, Int.le_refl, List.take_succ_cons, List.take_zero, decide_true, decide_false, Bool.and_false, Bool.false_and, zz, zzN, ↓reduceIte, Nat.reduceEqDiff, Nat.reduceBEq, Int.reduceLT, Int.reduceLE, Int.reduceToNat, Int.reduceEq, Int.reduceAdd, Int.reduceSub, Int.reduceMul, Int.reduceNeg, Nat.reduceMul, Nat.reduceSub, Nat.reduceLeDiff, Nat.reduceLT, Int.reduceGT, Int.reduceBEq, Int.reduceBNe, reduceCtorEq, Nat.reduceAdd, Ins.map, Fr.ev, argFr, argE, binEv, intEv, shEv, strEv, unEv, Fr.mark, evRes, tup, lenD, lookupD, loadD, partD, storeD, cellsD, cellOk, setAt, objNe, objSame, eqEv, readEv, buildD, buildRows, rowsOf, elemsOf]
                omega
          · have g5 : ((j : Int) < (s.length : Int)) = False := by simp; omega
            have e : s.drop j = [] := List.drop_of_length_le (by omega)
            rw [e] at k2
            have hj : j = p + m := by simp only [spn, List.takeWhile_nil, List.length_nil] at k2; omega
            subst hj
            have ws : IntKind.i64.wrap (((p + m : Nat) : Int) - (p : Int)) = (m : Int) := by rw [wrap_i64 (by omega) (by omega)]; omega
            cases c5 : words.contains ((s.drop p).take m) with
            | true =>
              have ho : oneL (s.drop p) = (4, (s.drop p).take m, true) := by unfold oneL; rw [e0, if_neg (by rw [c2]; exact Bool.false_ne_true), if_pos c3, ← hm, if_pos c5]
              have lb := blankL_le ((s.drop p).drop (m))
              rw [List.length_drop, List.length_drop] at lb
              have eb : s.drop (p + m) = (s.drop p).drop (m) := by rw [List.drop_drop]
              have w2 : ((p + m : Nat) : Int) + (blankL ((s.drop p).drop (m)) : Int) = ((p + m + blankL ((s.drop p).drop (m)) : Nat) : Int) := by omega
              have w3 : (p : Int) + (m : Nat) = ((p + m : Nat) : Int) := by omega
              have g6 : (((p + m : Nat) : Int) ≤ (s.length : Int)) = True := by simp; omega
              have ek : p + m - p = m := by omega
              have a1 : (encT out).length = out.length := len_encT
              have h3 : ∀ x : List UInt8, (∀ y ∈ [[D.int .i64 4, D.str x, D.int .i64 (p : Int)]], y.length = 3 ∧ y.all cellOk = true) := by simp [cellOk]
              simp (config := {maxSteps := 1000000}) only [c3, c5, wj, g5, g2, g2', g4, c2, g6, ek, eb, w2, w3, a1, h3, tokD, encT_app, strEv, q52, q53, q55, q41, q56, q54, tb56_e, Int.natCast_nonneg, Nat.le_refl, Int.le_refl, List.take_succ_cons, List.take_zero, decide_true, decide_false, Bool.and_false, Bool.false_and, zz, zzN, ↓reduceIte, Nat.reduceEqDiff, Nat.reduceBEq, Int.reduceLT, Int.reduceLE, Int.reduceToNat, Int.reduceEq, Int.reduceAdd, Int.reduceSub, Int.reduceMul, Int.reduceNeg, Nat.reduceMul, Nat.reduceSub, Nat.reduceLeDiff, Nat.reduceLT, Int.reduceGT, Int.reduceBEq, Int.reduceBNe, reduceCtorEq, Nat.reduceAdd, Ins.map, Fr.ev, argFr, argE, binEv, intEv, shEv, strEv, unEv, Fr.mark, evRes, tup, lenD, lookupD, loadD, partD, storeD, cellsD, cellOk, setAt, objNe, objSame, eqEv, readEv, buildD, buildRows, rowsOf, elemsOf]
              repeat (first | intro _ | refine And.intro (by omega) ?_)
              refine fin 4 (m) _ _ ho (by omega) ?_ (AHeap.sub_refl _)
              simp only [Int.natCast_nonneg, Nat.le_refl, Int.le_refl, List.take_succ_cons, List.take_zero, decide_true, decide_false, Bool.and_false, Bool.false_and, zz, zzN, ↓reduceIte, Nat.reduceEqDiff, Nat.reduceBEq, Int.reduceLT, Int.reduceLE, Int.reduceToNat, Int.reduceEq, Int.reduceAdd, Int.reduceSub, Int.reduceMul, Int.reduceNeg, Nat.reduceMul, Nat.reduceSub, Nat.reduceLeDiff, Nat.reduceLT, Int.reduceGT, Int.reduceBEq, Int.reduceBNe, reduceCtorEq, Nat.reduceAdd, Ins.map, Fr.ev, argFr, argE, binEv, intEv, shEv, strEv, unEv, Fr.mark, evRes, tup, lenD, lookupD, loadD, partD, storeD, cellsD, cellOk, setAt, objNe, objSame, eqEv, readEv, buildD, buildRows, rowsOf, elemsOf]
            | false =>
              by_cases c6 : m ≤ 16
              · have g16 : ((m : Int) ≤ 16) = True := by simp; omega
                have ho : oneL (s.drop p) = (1, (s.drop p).take m, true) := by unfold oneL; rw [e0, if_neg (by rw [c2]; exact Bool.false_ne_true), if_pos c3, ← hm, if_neg (by rw [c5]; exact Bool.false_ne_true), decide_eq_true c6]
                have lb := blankL_le ((s.drop p).drop (m))
                rw [List.length_drop, List.length_drop] at lb
                have eb : s.drop (p + m) = (s.drop p).drop (m) := by rw [List.drop_drop]
                have w2 : ((p + m : Nat) : Int) + (blankL ((s.drop p).drop (m)) : Int) = ((p + m + blankL ((s.drop p).drop (m)) : Nat) : Int) := by omega
                have w3 : (p : Int) + (m : Nat) = ((p + m : Nat) : Int) := by omega
                have g6 : (((p + m : Nat) : Int) ≤ (s.length : Int)) = True := by simp; omega
                have ek : p + m - p = m := by omega
                have a1 : (encT out).length = out.length := len_encT
                have h3 : ∀ x : List UInt8, (∀ y ∈ [[D.int .i64 1, D.str x, D.int .i64 (p : Int)]], y.length = 3 ∧ y.all cellOk = true) := by simp [cellOk]
                simp (config := {maxSteps := 1000000}) only [c3, c5, wj, ws, g16, g5, g2, g2', g4, c2, g6, ek, eb, w2, w3, a1, h3, tokD, encT_app, strEv, q52, q53, q55, q41, q56, q54, tb56_e, Int.natCast_nonneg, Nat.le_refl, Int.le_refl, List.take_succ_cons, List.take_zero, decide_true, decide_false, Bool.and_false, Bool.false_and, zz, zzN, ↓reduceIte, Nat.reduceEqDiff, Nat.reduceBEq, Int.reduceLT, Int.reduceLE, Int.reduceToNat, Int.reduceEq, Int.reduceAdd, Int.reduceSub, Int.reduceMul, Int.reduceNeg, Nat.reduceMul, Nat.reduceSub, Nat.reduceLeDiff, Nat.reduceLT, Int.reduceGT, Int.reduceBEq, Int.reduceBNe, reduceCtorEq, Nat.reduceAdd, Ins.map, Fr.ev, argFr, argE, binEv, intEv, shEv, strEv, unEv, Fr.mark, evRes, tup, lenD, lookupD, loadD, partD, storeD, cellsD, cellOk, setAt, objNe, objSame, eqEv, readEv, buildD, buildRows, rowsOf, elemsOf]
                repeat (first | intro _ | refine And.intro (by omega) ?_)
                refine fin 1 (m) _ _ ho (by omega) ?_ (AHeap.sub_refl _)
                simp only [Int.natCast_nonneg, Nat.le_refl, Int.le_refl, List.take_succ_cons, List.take_zero, decide_true, decide_false, Bool.and_false, Bool.false_and, zz, zzN, ↓reduceIte, Nat.reduceEqDiff, Nat.reduceBEq, Int.reduceLT, Int.reduceLE, Int.reduceToNat, Int.reduceEq, Int.reduceAdd, Int.reduceSub, Int.reduceMul, Int.reduceNeg, Nat.reduceMul, Nat.reduceSub, Nat.reduceLeDiff, Nat.reduceLT, Int.reduceGT, Int.reduceBEq, Int.reduceBNe, reduceCtorEq, Nat.reduceAdd, Ins.map, Fr.ev, argFr, argE, binEv, intEv, shEv, strEv, unEv, Fr.mark, evRes, tup, lenD, lookupD, loadD, partD, storeD, cellsD, cellOk, setAt, objNe, objSame, eqEv, readEv, buildD, buildRows, rowsOf, elemsOf]
              · have g16 : ((m : Int) ≤ 16) = False := by simp; omega
                have hb := bad (by unfold oneL; rw [e0, if_neg (by rw [c2]; exact Bool.false_ne_true), if_pos c3, ← hm, if_neg (by rw [c5]; exact Bool.false_ne_true), decide_eq_false c6])
                subst hb
                have ek : p + m - p = m := by omega
                simp (config := {maxSteps := 1000000}) only [c2, c3, c5, wj, ws, g16, ek, g5, encT_nil, q53, q55, q41, tb56_e, Int.natCast_nonneg, Nat.le_refl, Int.le_refl, List.take_succ_cons, List.take_zero, decide_true, decide_false, Bool.and_false, Bool.false_and, zz, zzN, ↓reduceIte, Nat.reduceEqDiff, Nat.reduceBEq, Int.reduceLT, Int.reduceLE, Int.reduceToNat, Int.reduceEq, Int.reduceAdd, Int.reduceSub, Int.reduceMul, Int.reduceNeg, Nat.reduceMul, Nat.reduceSub, Nat.reduceLeDiff, Nat.reduceLT, Int.reduceGT, Int.reduceBEq, Int.reduceBNe, reduceCtorEq, Nat.reduceAdd, Ins.map, Fr.ev, argFr, argE, binEv, intEv, shEv, strEv, unEv, Fr.mark, evRes, tup, lenD, lookupD, loadD, partD, storeD, cellsD, cellOk, setAt, objNe, objSame, eqEv, readEv, buildD, buildRows, rowsOf, elemsOf]
                omega
        | false =>
          have hs := firstPre_signs (l := s.drop p) (by simp; omega)
          have sl : signL (s.drop p) ≤ s.length - p := by
            have := signL_le (l := s.drop p) (by simp; omega)
            rwa [List.length_drop] at this
          by_cases c5 : signL (s.drop p) = 0
          · rw [if_pos c5] at hs
            have hb := bad (by unfold oneL; rw [e0, if_neg (by rw [c2]; exact Bool.false_ne_true), if_neg (by rw [c3]; exact Bool.false_ne_true), hs])
            subst hb
            simp (config := {maxSteps := 1000000}) only [g2', g4, c2, c3, c5, encT_nil, q53, q54, q55, q56, tb56_e, Int.natCast_nonneg, Nat.le_refl, Int.le_refl, List.take_succ_cons, List.take_zero, decide_true, decide_false, Bool.and_false, Bool.false_and, zz, zzN, ↓reduceIte, Nat.reduceEqDiff, Nat.reduceBEq, Int.reduceLT, Int.reduceLE, Int.reduceToNat, Int.reduceEq, Int.reduceAdd, Int.reduceSub, Int.reduceMul, Int.reduceNeg, Nat.reduceMul, Nat.reduceSub, Nat.reduceLeDiff, Nat.reduceLT, Int.reduceGT, Int.reduceBEq, Int.reduceBNe, reduceCtorEq, Nat.reduceAdd, Ins.map, Fr.ev, argFr, argE, binEv, intEv, shEv, strEv, unEv, Fr.mark, evRes, tup, lenD, lookupD, loadD, partD, storeD, cellsD, cellOk, setAt, objNe, objSame, eqEv, readEv, buildD, buildRows, rowsOf, elemsOf]
          · rw [if_neg c5] at hs
            obtain ⟨k, hk⟩ : ∃ k, k = signL (s.drop p) := ⟨_, rfl⟩
            rw [← hk] at hs sl c5
            have gp : ((k : Int) > 0) = True := by simp; omega
            have w7 : IntKind.i64.wrap ((p + k : Nat) : Int) = ((p + k : Nat) : Int) := wrap_nat (by omega)
            have ho : oneL (s.drop p) = (5, (s.drop p).take k, true) := by unfold oneL; rw [e0, if_neg (by rw [c2]; exact Bool.false_ne_true), if_neg (by rw [c3]; exact Bool.false_ne_true), hs]
            have lb := blankL_le ((s.drop p).drop (k))
            rw [List.length_drop, List.length_drop] at lb
            have eb : s.drop (p + k) = (s.drop p).drop (k) := by rw [List.drop_drop]
            have w2 : ((p + k : Nat) : Int) + (blankL ((s.drop p).drop (k)) : Int) = ((p + k + blankL ((s.drop p).drop (k)) : Nat) : Int) := by omega
            have w3 : (p : Int) + (k : Nat) = ((p + k : Nat) : Int) := by omega
            have g6 : (((p + k : Nat) : Int) ≤ (s.length : Int)) = True := by simp; omega
            have ek : p + k - p = k := by omega
            have a1 : (encT out).length = out.length := len_encT
            have h3 : ∀ x : List UInt8, (∀ y ∈ [[D.int .i64 5, D.str x, D.int .i64 (p : Int)]], y.length = 3 ∧ y.all cellOk = true) := by simp [cellOk]
            simp (config := {maxSteps := 1000000}) only [c3, gp, w7, ← hk, g2, g2', g4, c2, g6, ek, eb, w2, w3, a1, h3, tokD, encT_app, strEv, q52, q53, q55, q41, q56, q54, tb56_e, Int.natCast_nonneg, Nat.le_refl, Int.le_refl, List.take_succ_cons, List.take_zero, decide_true, decide_false, Bool.and_false, Bool.false_and, zz, zzN, ↓reduceIte, Nat.reduceEqDiff, Nat.reduceBEq, Int.reduceLT, Int.reduceLE, Int.reduceToNat, Int.reduceEq, Int.reduceAdd, Int.reduceSub, Int.reduceMul, Int.reduceNeg, Nat.reduceMul, Nat.reduceSub, Nat.reduceLeDiff, Nat.reduceLT, Int.reduceGT, Int.reduceBEq, Int.reduceBNe, reduceCtorEq, Nat.reduceAdd, Ins.map, Fr.ev, argFr, argE, binEv, intEv, shEv, strEv, unEv, Fr.mark, evRes, tup, lenD, lookupD, loadD, partD, storeD, cellsD, cellOk, setAt, objNe, objSame, eqEv, readEv, buildD, buildRows, rowsOf, elemsOf]
            repeat (first | intro _ | refine And.intro (by omega) ?_)
            refine fin 5 (k) _ _ ho (by omega) ?_ (AHeap.sub_refl _)
            simp only [Int.natCast_nonneg, Nat.le_refl, Int.le_refl, List.take_succ_cons, List.take_zero, decide_true, decide_false, Bool.and_false, Bool.false_and, zz, zzN, ↓reduceIte, Nat.reduceEqDiff, Nat.reduceBEq, Int.reduceLT, Int.reduceLE, Int.reduceToNat, Int.reduceEq, Int.reduceAdd, Int.reduceSub, Int.reduceMul, Int.reduceNeg, Nat.reduceMul, Nat.reduceSub, Nat.reduceLeDiff, Nat.reduceLT, Int.reduceGT, Int.reduceBEq, Int.reduceBNe, reduceCtorEq, Nat.reduceAdd, Ins.map, Fr.ev, argFr, argE, binEv, intEv, shEv, strEv, unEv, Fr.mark, evRes, tup, lenD, lookupD, loadD, partD, storeD, cellsD, cellOk, setAt, objNe, objSame, eqEv, readEv, buildD, buildRows, rowsOf, elemsOf]
      · have g4 : ((p : Int) < (s.length : Int)) = False := by simp; omega
        have e : s.drop p = [] := List.drop_of_length_le (by omega)
        have hp : p = s.length := by omega
        subst hp
        rw [if_pos e] at i4
        have a1 : (encT out).length = out.length := len_encT
        have a2 : (encT (out ++ [(0, [], (s.length : Int))])).take (out.length + 1) = encT (out ++ [(0, [], (s.length : Int))]) := List.take_of_length_le (by rw [len_encT]; simp)
        have a3 : out.length + 1 ≤ (encT (out ++ [(0, [], (s.length : Int))])).length := by rw [len_encT]; simp
        simp only [g4, ← i4, a1, encT_app, a2, Int.natCast_nonneg, Nat.le_refl, Int.le_refl, List.take_succ_cons, List.take_zero, decide_true, decide_false, Bool.and_false, Bool.false_and, zz, zzN, ↓reduceIte, Nat.reduceEqDiff, Nat.reduceBEq, Int.reduceLT, Int.reduceLE, Int.reduceToNat, Int.reduceEq, Int.reduceAdd, Int.reduceSub, Int.reduceMul, Int.reduceNeg, Nat.reduceMul, Nat.reduceSub, Nat.reduceLeDiff, Nat.reduceLT, Int.reduceGT, Int.reduceBEq, Int.reduceBNe, reduceCtorEq, Nat.reduceAdd, Ins.map, Fr.ev, argFr, argE, binEv, intEv, shEv, strEv, unEv, Fr.mark, evRes, tup, lenD, lookupD, loadD, partD, storeD, cellsD, cellOk, setAt, objNe, objSame, eqEv, readEv, buildD, buildRows, rowsOf, elemsOf]
        rw [if_pos a3]
        exact fun _ _ => ⟨by omega, rfl⟩
end Go.Proofs.Ytaimobfakcompaa.Zz
