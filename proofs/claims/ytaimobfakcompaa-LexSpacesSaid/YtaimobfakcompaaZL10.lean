/- The law of spaces. -/
import Derived.Test.YtaimobfakcompaaZL9
namespace Go.Proofs.Ytaimobfakcompaa.Zz
set_option linter.unusedVariables false
set_option linter.unusedSimpArgs false
set_option maxRecDepth 20000
def p7 : Plan := ⟨⟨[], [], [(11, 3), (11, 8), (20, 2), (20, 7), (20, 14), (20, 19)], [], [], []⟩, [(11, [0, 1, 2, 3, 4, 5, 6, 7, 8, 9, 10, 11, 12]), (20, [0, 1, 2, 3, 4, 5, 6, 7, 8, 9, 10, 11, 12, 13, 14, 15, 16, 17, 18, 19, 20, 21, 22, 23])]⟩
/-- cupel/cupellaw09.LexSpaces (2 parameters, 0 captured) -/
def s7 : Stm :=
  .seq (.ops [⟨.mov (.c (.bool false)), (some 4), none, true⟩])
  (.seq (.ops [⟨.mov (.t 0), (some 16), none, true⟩,
     ⟨.qcall (.f 23) [(.t 16)], (some 17), none, false⟩,
     ⟨.mov (.t 17), (some 15), none, true⟩,
     ⟨.extract (.t 15) 0, (some 18), none, true⟩,
     ⟨.extract (.t 15) 1, (some 19), none, true⟩,
     ⟨.extract (.t 15) 2, (some 20), none, true⟩,
     ⟨.mov (.t 18), (some 5), none, true⟩,
     ⟨.mov (.t 19), (some 6), none, true⟩,
     ⟨.mov (.t 20), (some 7), none, true⟩])
  (.seq (.seq (.ops [⟨.mov (.t 7), (some 21), none, true⟩,
      ⟨.bin .neq (.t 21) (.c (.int .i64 0)), (some 22), none, true⟩,
      ⟨.mov (.t 22), (some 23), none, true⟩,
      ⟨.mov (.t 0), (some 24), (some (23, false)), true⟩,
      ⟨.len .str (.t 24), (some 25), (some (23, false)), false⟩,
      ⟨.bin .gtr (.t 25) (.c (.int .i64 1000)), (some 26), (some (23, false)), true⟩,
      ⟨.pick (.t 23) (.c (.bool true)) (.t 26), (some 27), none, true⟩])
   (.cond (.t 27)
    (.seq (.ops [⟨.qcall (.f 25) [], (some 28), none, false⟩,
        ⟨.mov (.t 28), (some 4), none, true⟩])
     (.ret))
    (.skip)))
  (.seq (.ops [⟨.mov (.c (.str [])), (some 8), none, true⟩])
  (.seq (.seq (.ops [⟨.mov (.c (.int .i64 0)), (some 9), none, true⟩])
   (.block 0 (.loop (.seq (.seq (.ops [⟨.mov (.t 9), (some 29), none, true⟩,
         ⟨.mov (.t 5), (some 30), none, true⟩,
         ⟨.len .sl (.t 30), (some 31), none, false⟩,
         ⟨.bin .lss (.t 29) (.t 31), (some 32), none, true⟩])
      (.cond (.t 32)
       (.skip)
       (.exit 0)))
     (.seq (.block 1 (.seq (.ops [⟨.mov (.c (.int .i64 0)), (some 10), none, true⟩])
       (.seq (.seq (.ops [⟨.mov (.t 1), (some 35), none, true⟩,
           ⟨.len .sl (.t 35), (some 36), none, false⟩,
           ⟨.bin .gtr (.t 36) (.c (.int .i64 0)), (some 37), none, true⟩])
        (.cond (.t 37)
         (.ops [⟨.mov (.t 1), (some 38), none, true⟩,
            ⟨.mov (.t 9), (some 39), none, true⟩,
            ⟨.mov (.t 1), (some 40), none, true⟩,
            ⟨.len .sl (.t 40), (some 41), none, false⟩,
            ⟨.bin .rem (.t 39) (.t 41), (some 42), none, true⟩,
            ⟨.indexAddrS 1 (.t 38) (.t 42), (some 43), none, false⟩,
            ⟨.load none (.t 43), (some 44), none, false⟩,
            ⟨.bin .rem (.t 44) (.c (.int .i64 4)), (some 45), none, true⟩,
            ⟨.bin .add (.t 45) (.c (.int .i64 4)), (some 46), none, true⟩,
            ⟨.bin .rem (.t 46) (.c (.int .i64 4)), (some 47), none, true⟩,
            ⟨.mov (.t 47), (some 10), none, true⟩])
         (.skip)))
       (.seq (.ops [⟨.mov (.t 8), (some 48), none, true⟩,
          ⟨.mov (.t 5), (some 49), none, true⟩,
          ⟨.mov (.t 9), (some 50), none, true⟩,
          ⟨.indexAddrS 3 (.t 49) (.t 50), (some 51), none, false⟩,
          ⟨.fieldAddr 1 (.t 51), (some 52), none, true⟩,
          ⟨.load none (.t 52), (some 53), none, false⟩,
          ⟨.buildSlice 1 [(.str [])] 4 [(0, (.c (.str [32]))), (1, (.c (.str [9, 32]))), (2, (.c (.str [10]))), (3, (.c (.str [32, 47, 47, 32, 97, 32, 110, 111, 116, 101, 32, 58, 61, 10])))] false, (some 54), none, true⟩,
          ⟨.mov (.t 10), (some 55), none, true⟩,
          ⟨.indexAddrS 1 (.t 54) (.t 55), (some 56), none, false⟩,
          ⟨.load none (.t 56), (some 57), none, false⟩,
          ⟨.bin .add (.t 53) (.t 57), (some 58), none, true⟩,
          ⟨.bin .add (.t 48) (.t 58), (some 59), none, true⟩,
          ⟨.mov (.t 59), (some 8), none, true⟩])
       (.seq (.ops [⟨.mov (.t 8), (some 60), none, true⟩,
          ⟨.len .str (.t 60), (some 61), none, false⟩,
          ⟨.bin .gtr (.t 61) (.c (.int .i64 4000)), (some 62), none, true⟩])
       (.cond (.t 62)
        (.seq (.ops [⟨.mov (.c (.bool true)), (some 4), none, true⟩])
         (.ret))
        (.skip)))))))
     (.ops [⟨.mov (.t 9), (some 33), none, true⟩,
       ⟨.bin .add (.t 33) (.c (.int .i64 1)), (some 34), none, true⟩,
       ⟨.mov (.t 34), (some 9), none, true⟩]))))))
  (.seq (.ops [⟨.mov (.t 8), (some 64), none, true⟩,
     ⟨.qcall (.f 23) [(.t 64)], (some 65), none, false⟩,
     ⟨.mov (.t 65), (some 63), none, true⟩,
     ⟨.extract (.t 63) 0, (some 66), none, true⟩,
     ⟨.extract (.t 63) 1, (some 67), none, true⟩,
     ⟨.extract (.t 63) 2, (some 68), none, true⟩,
     ⟨.mov (.t 66), (some 11), none, true⟩,
     ⟨.mov (.t 67), (some 12), none, true⟩,
     ⟨.mov (.t 68), (some 13), none, true⟩])
  (.seq (.seq (.ops [⟨.qcall (.f 25) [], (some 69), none, false⟩,
      ⟨.un .not (.t 69), (some 70), none, true⟩,
      ⟨.mov (.t 70), (some 71), none, true⟩,
      ⟨.mov (.t 13), (some 72), (some (71, false)), true⟩,
      ⟨.bin .neq (.t 72) (.c (.int .i64 0)), (some 73), (some (71, false)), true⟩,
      ⟨.pick (.t 71) (.c (.bool true)) (.t 73), (some 74), none, true⟩,
      ⟨.mov (.t 74), (some 75), none, true⟩,
      ⟨.mov (.t 11), (some 76), (some (75, false)), true⟩,
      ⟨.len .sl (.t 76), (some 77), (some (75, false)), false⟩,
      ⟨.mov (.t 5), (some 78), (some (75, false)), true⟩,
      ⟨.len .sl (.t 78), (some 79), (some (75, false)), false⟩,
      ⟨.bin .neq (.t 77) (.t 79), (some 80), (some (75, false)), true⟩,
      ⟨.pick (.t 75) (.c (.bool true)) (.t 80), (some 81), none, true⟩])
   (.cond (.t 81)
    (.seq (.ops [⟨.mov (.c (.bool false)), (some 4), none, true⟩])
     (.ret))
    (.skip)))
  (.seq (.seq (.ops [⟨.mov (.c (.int .i64 0)), (some 14), none, true⟩])
   (.block 2 (.loop (.seq (.seq (.ops [⟨.mov (.t 14), (some 82), none, true⟩,
         ⟨.mov (.t 5), (some 83), none, true⟩,
         ⟨.len .sl (.t 83), (some 84), none, false⟩,
         ⟨.bin .lss (.t 82) (.t 84), (some 85), none, true⟩])
      (.cond (.t 85)
       (.skip)
       (.exit 2)))
     (.seq (.block 3 (.seq (.ops [⟨.mov (.t 11), (some 88), none, true⟩,
          ⟨.mov (.t 14), (some 89), none, true⟩,
          ⟨.indexAddrS 3 (.t 88) (.t 89), (some 90), none, false⟩,
          ⟨.fieldAddr 0 (.t 90), (some 91), none, true⟩,
          ⟨.load none (.t 91), (some 92), none, false⟩,
          ⟨.mov (.t 5), (some 93), none, true⟩,
          ⟨.mov (.t 14), (some 94), none, true⟩,
          ⟨.indexAddrS 3 (.t 93) (.t 94), (some 95), none, false⟩,
          ⟨.fieldAddr 0 (.t 95), (some 96), none, true⟩,
          ⟨.load none (.t 96), (some 97), none, false⟩,
          ⟨.bin .neq (.t 92) (.t 97), (some 98), none, true⟩,
          ⟨.mov (.t 98), (some 99), none, true⟩,
          ⟨.mov (.t 11), (some 100), (some (99, false)), true⟩,
          ⟨.mov (.t 14), (some 101), (some (99, false)), true⟩,
          ⟨.indexAddrS 3 (.t 100) (.t 101), (some 102), (some (99, false)), false⟩,
          ⟨.fieldAddr 1 (.t 102), (some 103), (some (99, false)), true⟩,
          ⟨.load none (.t 103), (some 104), (some (99, false)), false⟩,
          ⟨.mov (.t 5), (some 105), (some (99, false)), true⟩,
          ⟨.mov (.t 14), (some 106), (some (99, false)), true⟩,
          ⟨.indexAddrS 3 (.t 105) (.t 106), (some 107), (some (99, false)), false⟩,
          ⟨.fieldAddr 1 (.t 107), (some 108), (some (99, false)), true⟩,
          ⟨.load none (.t 108), (some 109), (some (99, false)), false⟩,
          ⟨.bin .neq (.t 104) (.t 109), (some 110), (some (99, false)), true⟩,
          ⟨.pick (.t 99) (.c (.bool true)) (.t 110), (some 111), none, true⟩])
       (.cond (.t 111)
        (.seq (.ops [⟨.mov (.c (.bool false)), (some 4), none, true⟩])
         (.ret))
        (.skip))))
     (.ops [⟨.mov (.t 14), (some 86), none, true⟩,
       ⟨.bin .add (.t 86) (.c (.int .i64 1)), (some 87), none, true⟩,
       ⟨.mov (.t 87), (some 14), none, true⟩]))))))
  (.seq (.ops [⟨.mov (.c (.bool true)), (some 4), none, true⟩])
  (.ret)))))))))
theorem st7 : stmOf Try.prog 7 p7 = some (s7, [.tmp 4], 112) := by kernel_rfl

theorem tmod4 (c : Int) : ∃ k : Nat, Int.tmod (IntKind.i64.wrap (Int.tmod c 4 + 4)) 4 = (k : Int) ∧ k < 4 := by
  have b1 : -4 < Int.tmod c 4 := Int.lt_tmod_of_pos _ (by omega)
  have b2 : Int.tmod c 4 < 4 := Int.tmod_lt_of_pos _ (by omega)
  rw [wrap_i64 (by omega) (by omega)]
  have b3 : 0 ≤ Int.tmod (Int.tmod c 4 + 4) 4 := Int.tmod_nonneg _ (by omega)
  have b4 : Int.tmod (Int.tmod c 4 + 4) 4 < 4 := Int.tmod_lt_of_pos _ (by omega)
  exact ⟨(Int.tmod (Int.tmod c 4 + 4) 4).toNat, by omega, by omega⟩
/-- Which separator stands behind a word. -/
def sepOf (picks : List Int) (i : Nat) : List UInt8 :=
  seps.getD (if picks = [] then 0 else (Int.tmod (IntKind.i64.wrap (Int.tmod (picks.getD (Int.tmod (i : Int) (picks.length : Int)).toNat 0) 4 + 4)) 4).toNat) []
theorem sepOf_mem (picks : List Int) (i : Nat) : sepOf picks i ∈ seps := by
  unfold sepOf
  have : ∀ k < 4, seps.getD k [] ∈ seps := by decide
  apply this
  split
  · omega
  · obtain ⟨k, h1, h2⟩ := tmod4 (picks.getD (Int.tmod (i : Int) (picks.length : Int)).toNat 0)
    rw [h1]; omega
theorem len_sep {x : List UInt8} (h : x ∈ seps) : x.length ≤ 14 := by
  simp only [seps, List.mem_cons, List.not_mem_nil, or_false] at h
  rcases h with rfl | rfl | rfl | rfl <;> decide
theorem toks_len : ∀ (n p : Nat) (l : List UInt8) (acc T : List Tok) (a : Nat) (e : Int), l.length ≤ 4096 → toksN n p l acc = (T, a, e) → (∀ w ∈ acc, w.2.1.length ≤ 4096) → ∀ w ∈ T, w.2.1.length ≤ 4096
  | 0, p, l, acc, T, a, e, hn, h, hg => by simp only [toksN, Prod.mk.injEq] at h; rw [← h.1]; exact hg
  | n + 1, p, l, acc, T, a, e, hn, h, hg => by
    simp only [toksN] at h
    by_cases c0 : l = []
    · rw [if_pos c0] at h
      simp only [Prod.mk.injEq] at h
      rw [← h.1]
      intro w hw
      rcases List.mem_append.1 hw with h1 | h1
      · exact hg w h1
      · rw [List.mem_singleton] at h1; subst h1; simp
    · rw [if_neg c0] at h
      have hl : 0 < l.length := List.length_pos_iff.2 c0
      by_cases c : (oneL l).2.2 = false
      · rw [if_pos c] at h
        simp only [Prod.mk.injEq] at h
        rw [← h.1]; simp
      · rw [if_neg c] at h
        obtain ⟨b1, b2, b3, b4⟩ := oneL_ok hl (by simpa using c)
        refine toks_len n _ _ _ T a e (by simp; omega) h fun w hw => ?_
        rcases List.mem_append.1 hw with h1 | h1
        · exact hg w h1
        · rw [List.mem_singleton] at h1; subst h1; simp only; omega
theorem toks_len4 {s : List UInt8} {T : List Tok} {a : Nat} {e : Int} (h : tokens s = (T, a, e)) : ∀ w ∈ T, w.2.1.length ≤ 4096 := by
  unfold tokens at h
  split at h
  · simp only [Prod.mk.injEq] at h; rw [← h.1]; simp
  · exact toks_len _ _ _ _ _ _ _ (by simp; omega) h (by simp)
set_option maxHeartbeats 2000000 in
theorem lexSpaces_c (s : List UInt8) (picks : List Int) : PCall Try.prog 7 [.str s, .sl (encI picks)] (.bool true) := by
  refine PCall.run tb39_ok st7 (by simp) fun E => ?_
  rcases ht : tokens s with ⟨T, a, e⟩
  cases he : (e != 0) with
  | true =>
    simp (config := {maxSteps := 1000000}) only [s7, ht, he, q23, q25, tb39_e, Int.natCast_nonneg, Nat.le_refl, Int.le_refl, List.take_succ_cons, List.take_zero, decide_true, decide_false, Bool.and_false, Bool.false_and, zz, zzN, ↓reduceIte, Nat.reduceEqDiff, Nat.reduceBEq, Int.reduceLT, Int.reduceLE, Int.reduceToNat, Int.reduceEq, Int.reduceAdd, Int.reduceSub, Int.reduceMul, Int.reduceNeg, Nat.reduceMul, Nat.reduceSub, Nat.reduceLeDiff, Nat.reduceLT, Int.reduceGT, Int.reduceBEq, Int.reduceBNe, reduceCtorEq, Nat.reduceAdd, Ins.map, Fr.ev, argFr, argE, binEv, intEv, shEv, strEv, unEv, Fr.mark, evRes, tup, lenD, lookupD, loadD, partD, storeD, cellsD, cellOk, setAt, objNe, objSame, eqEv, readEv, buildD, buildRows, rowsOf, elemsOf]
  | false =>
  by_cases c0 : 1000 < s.length
  · have g1 : ((s.length : Int) > 1000) = True := by simp; omega
    simp (config := {maxSteps := 1000000}) only [s7, ht, he, g1, q23, q25, tb39_e, Int.natCast_nonneg, Nat.le_refl, Int.le_refl, List.take_succ_cons, List.take_zero, decide_true, decide_false, Bool.and_false, Bool.false_and, zz, zzN, ↓reduceIte, Nat.reduceEqDiff, Nat.reduceBEq, Int.reduceLT, Int.reduceLE, Int.reduceToNat, Int.reduceEq, Int.reduceAdd, Int.reduceSub, Int.reduceMul, Int.reduceNeg, Nat.reduceMul, Nat.reduceSub, Nat.reduceLeDiff, Nat.reduceLT, Int.reduceGT, Int.reduceBEq, Int.reduceBNe, reduceCtorEq, Nat.reduceAdd, Ins.map, Fr.ev, argFr, argE, binEv, intEv, shEv, strEv, unEv, Fr.mark, evRes, tup, lenD, lookupD, loadD, partD, storeD, cellsD, cellOk, setAt, objNe, objSame, eqEv, readEv, buildD, buildRows, rowsOf, elemsOf]
  have g1 : ((s.length : Int) > 1000) = False := by simp; omega
  have e0 : e = 0 := by simpa using he
  subst e0
  simp (config := {maxSteps := 1000000}) only [s7, ht, he, g1, q23, q25, tb39_e, Int.natCast_nonneg, Nat.le_refl, Int.le_refl, List.take_succ_cons, List.take_zero, decide_true, decide_false, Bool.and_false, Bool.false_and, zz, zzN, ↓reduceIte, Nat.reduceEqDiff, Nat.reduceBEq, Int.reduceLT, Int.reduceLE, Int.reduceToNat, Int.reduceEq, Int.reduceAdd, Int.reduceSub, Int.reduceMul, Int.reduceNeg, Nat.reduceMul, Nat.reduceSub, Nat.reduceLeDiff, Nat.reduceLT, Int.reduceGT, Int.reduceBEq, Int.reduceBNe, reduceCtorEq, Nat.reduceAdd, Ins.map, Fr.ev, argFr, argE, binEv, intEv, shEv, strEv, unEv, Fr.mark, evRes, tup, lenD, lookupD, loadD, partD, storeD, cellsD, cellOk, setAt, objNe, objSame, eqEv, readEv, buildD, buildRows, rowsOf, elemsOf]
  repeat (first | intro _ | refine And.intro (by omega) ?_)
  refine run_loop (X := Nat) (fun i => [(1, .sl (encI picks)), (5, .sl (encT T)), (8, .str (rend (sepOf picks) 0 (T.take i))), (9, .int .i64 i)]) (fun _ => .emp) (fun i => T.length - i) (fun i => i ≤ T.length ∧ (rend (sepOf picks) 0 (T.take i)).length ≤ 4000) 0 (by simp [rend]) ?_ (AHeap.sub_refl _) ?_
  · simp only [rend, Int.natCast_nonneg, Nat.le_refl, Int.le_refl, List.take_succ_cons, List.take_zero, decide_true, decide_false, Bool.and_false, Bool.false_and, zz, zzN, ↓reduceIte, Nat.reduceEqDiff, Nat.reduceBEq, Int.reduceLT, Int.reduceLE, Int.reduceToNat, Int.reduceEq, Int.reduceAdd, Int.reduceSub, Int.reduceMul, Int.reduceNeg, Nat.reduceMul, Nat.reduceSub, Nat.reduceLeDiff, Nat.reduceLT, Int.reduceGT, Int.reduceBEq, Int.reduceBNe, reduceCtorEq, Nat.reduceAdd, Ins.map, Fr.ev, argFr, argE, binEv, intEv, shEv, strEv, unEv, Fr.mark, evRes, tup, lenD, lookupD, loadD, partD, storeD, cellsD, cellOk, setAt, objNe, objSame, eqEv, readEv, buildD, buildRows, rowsOf, elemsOf]
  rintro i Q ⟨hi, hl⟩ hQ
  by_cases c1 : i < T.length
  · by_cases cb : T.length ≤ 9223372036854775807
    · have g2 : ((i : Int) < (T.length : Int)) = True := by simp; omega
      have wi : IntKind.i64.wrap ((i : Int) + 1) = ((i + 1 : Nat) : Int) := wrap_succ (by omega)
      obtain ⟨x, hx⟩ : ∃ x, T[i]? = some x := by rw [List.getElem?_eq_getElem c1]; exact ⟨_, rfl⟩
      have es : [[D.str [32]], [D.str [9, 32]], [D.str [10]], [D.str [32, 47, 47, 32, 97, 32, 110, 111, 116, 101, 32, 58, 61, 10]]] = encS seps := rfl
      have hT : T.take (i + 1) = T.take i ++ [x] := by rw [List.take_add_one, hx]; rfl
      have hr : rend (sepOf picks) 0 (T.take (i + 1)) = rend (sepOf picks) 0 (T.take i) ++ (x.2.1 ++ sepOf picks i) := by
        rw [hT, rend_snoc]
        have : (T.take i).length = i := by simp; omega
        rw [this, Nat.zero_add]
      have lx := toks_len4 ht x (List.mem_of_getElem? hx)
      have ls := len_sep (sepOf_mem picks i)
      by_cases cp : picks = []
      · have sx : seps[0]? = some (sepOf picks i) := by simp only [sepOf, cp]; rfl
        have lp : ((picks.length : Int) > 0) = False := by simp [cp]
        have s0 : (0 : Int) < (seps.length : Int) := by decide
        have a1 : (rend (sepOf picks) 0 (T.take i) ++ (x.2.1 ++ sepOf picks i)).length = (rend (sepOf picks) 0 (T.take i)).length + (x.2.1.length + (sepOf picks i).length) := by simp only [List.length_append]
        have a2 : (x.2.1 ++ sepOf picks i).length = x.2.1.length + (sepOf picks i).length := by simp only [List.length_append]
        by_cases big : 4000 < (rend (sepOf picks) 0 (T.take i) ++ (x.2.1 ++ sepOf picks i)).length
        · have gb : (((rend (sepOf picks) 0 (T.take i) ++ (x.2.1 ++ sepOf picks i)).length : Int) > 4000) = True := by simp only [gt_iff_lt, eq_iff_iff, iff_true]; omega
          simp (config := {maxSteps := 1000000}) only [sx, lp, cb, gb, g2, wi, hx, es, len_encT, len_encI, askE_encT, askE_encS, askE_encI, strEv, tb39_e, Int.natCast_nonneg, Nat.le_refl, Int.le_refl, List.take_succ_cons, List.take_zero, decide_true, decide_false, Bool.and_false, Bool.false_and, zz, zzN, ↓reduceIte, Nat.reduceEqDiff, Nat.reduceBEq, Int.reduceLT, Int.reduceLE, Int.reduceToNat, Int.reduceEq, Int.reduceAdd, Int.reduceSub, Int.reduceMul, Int.reduceNeg, Nat.reduceMul, Nat.reduceSub, Nat.reduceLeDiff, Nat.reduceLT, Int.reduceGT, Int.reduceBEq, Int.reduceBNe, reduceCtorEq, Nat.reduceAdd, Ins.map, Fr.ev, argFr, argE, binEv, intEv, shEv, strEv, unEv, Fr.mark, evRes, tup, lenD, lookupD, loadD, partD, storeD, cellsD, cellOk, setAt, objNe, objSame, eqEv, readEv, buildD, buildRows, rowsOf, elemsOf]
          omega
        · have gb : (((rend (sepOf picks) 0 (T.take i) ++ (x.2.1 ++ sepOf picks i)).length : Int) > 4000) = False := by simp only [gt_iff_lt, eq_iff_iff, iff_false]; omega
          simp (config := {maxSteps := 1000000}) only [sx, lp, cb, gb, g2, wi, hx, es, len_encT, len_encI, askE_encT, askE_encS, askE_encI, strEv, tb39_e, Int.natCast_nonneg, Nat.le_refl, Int.le_refl, List.take_succ_cons, List.take_zero, decide_true, decide_false, Bool.and_false, Bool.false_and, zz, zzN, ↓reduceIte, Nat.reduceEqDiff, Nat.reduceBEq, Int.reduceLT, Int.reduceLE, Int.reduceToNat, Int.reduceEq, Int.reduceAdd, Int.reduceSub, Int.reduceMul, Int.reduceNeg, Nat.reduceMul, Nat.reduceSub, Nat.reduceLeDiff, Nat.reduceLT, Int.reduceGT, Int.reduceBEq, Int.reduceBNe, reduceCtorEq, Nat.reduceAdd, Ins.map, Fr.ev, argFr, argE, binEv, intEv, shEv, strEv, unEv, Fr.mark, evRes, tup, lenD, lookupD, loadD, partD, storeD, cellsD, cellOk, setAt, objNe, objSame, eqEv, readEv, buildD, buildRows, rowsOf, elemsOf]
          repeat (first | intro _ | refine And.intro (by omega) ?_)
          refine hQ (i + 1) _ _ ⟨by omega, by rw [hr]; omega⟩ ?_ (AHeap.sub_refl _) (by omega)
          simp only [hr, Int.natCast_nonneg, Nat.le_refl, Int.le_refl, List.take_succ_cons, List.take_zero, decide_true, decide_false, Bool.and_false, Bool.false_and, zz, zzN, ↓reduceIte, Nat.reduceEqDiff, Nat.reduceBEq, Int.reduceLT, Int.reduceLE, Int.reduceToNat, Int.reduceEq, Int.reduceAdd, Int.reduceSub, Int.reduceMul, Int.reduceNeg, Nat.reduceMul, Nat.reduceSub, Nat.reduceLeDiff, Nat.reduceLT, Int.reduceGT, Int.reduceBEq, Int.reduceBNe, reduceCtorEq, Nat.reduceAdd, Ins.map, Fr.ev, argFr, argE, binEv, intEv, shEv, strEv, unEv, Fr.mark, evRes, tup, lenD, lookupD, loadD, partD, storeD, cellsD, cellOk, setAt, objNe, objSame, eqEv, readEv, buildD, buildRows, rowsOf, elemsOf]
      · have hp : 0 < picks.length := List.length_pos_iff.mpr cp
        have lp : ((picks.length : Int) > 0) = True := by simp; omega
        have lz : ((picks.length : Int) = 0) = False := by simp; exact cp
        have hi : 0 ≤ Int.tmod (i : Int) (picks.length : Int) ∧ Int.tmod (i : Int) (picks.length : Int) < picks.length := ⟨Int.tmod_nonneg _ (by omega), Int.tmod_lt_of_pos _ (by omega)⟩
        obtain ⟨c, hcc⟩ : ∃ c, picks[(Int.tmod (i : Int) (picks.length : Int)).toNat]? = some c := by
          rw [List.getElem?_eq_getElem (by omega)]; exact ⟨_, rfl⟩
        obtain ⟨k, hk, hk4⟩ := tmod4 c
        have sx : seps[k]? = some (sepOf picks i) := by
          simp only [sepOf, cp, if_false, List.getD_eq_getElem?_getD, hcc, Option.getD_some, hk, Int.toNat_natCast]
          have : k < seps.length := hk4
          rw [List.getElem?_eq_getElem this]; simp
        have s0 : (seps.length : Int) = 4 := rfl
        have a1 : (rend (sepOf picks) 0 (T.take i) ++ (x.2.1 ++ sepOf picks i)).length = (rend (sepOf picks) 0 (T.take i)).length + (x.2.1.length + (sepOf picks i).length) := by simp only [List.length_append]
        have a2 : (x.2.1 ++ sepOf picks i).length = x.2.1.length + (sepOf picks i).length := by simp only [List.length_append]
        by_cases big : 4000 < (rend (sepOf picks) 0 (T.take i) ++ (x.2.1 ++ sepOf picks i)).length
        · have gb : (((rend (sepOf picks) 0 (T.take i) ++ (x.2.1 ++ sepOf picks i)).length : Int) > 4000) = True := by simp only [gt_iff_lt, eq_iff_iff, iff_true]; omega
          simp (config := {maxSteps := 1000000}) only [sx, lp, lz, cb, hcc, hk, gb, g2, wi, hx, es, len_encT, len_encI, askE_encT, askE_encS, askE_encI, strEv, tb39_e, Int.natCast_nonneg, Nat.le_refl, Int.le_refl, List.take_succ_cons, List.take_zero, decide_true, decide_false, Bool.and_false, Bool.false_and, zz, zzN, ↓reduceIte, Nat.reduceEqDiff, Nat.reduceBEq, Int.reduceLT, Int.reduceLE, Int.reduceToNat, Int.reduceEq, Int.reduceAdd, Int.reduceSub, Int.reduceMul, Int.reduceNeg, Nat.reduceMul, Nat.reduceSub, Nat.reduceLeDiff, Nat.reduceLT, Int.reduceGT, Int.reduceBEq, Int.reduceBNe, reduceCtorEq, Nat.reduceAdd, Ins.map, Fr.ev, argFr, argE, binEv, intEv, shEv, strEv, unEv, Fr.mark, evRes, tup, lenD, lookupD, loadD, partD, storeD, cellsD, cellOk, setAt, objNe, objSame, eqEv, readEv, buildD, buildRows, rowsOf, elemsOf]
          omega
        · have gb : (((rend (sepOf picks) 0 (T.take i) ++ (x.2.1 ++ sepOf picks i)).length : Int) > 4000) = False := by simp only [gt_iff_lt, eq_iff_iff, iff_false]; omega
          simp (config := {maxSteps := 1000000}) only [sx, lp, lz, cb, hcc, hk, gb, g2, wi, hx, es, len_encT, len_encI, askE_encT, askE_encS, askE_encI, strEv, tb39_e, Int.natCast_nonneg, Nat.le_refl, Int.le_refl, List.take_succ_cons, List.take_zero, decide_true, decide_false, Bool.and_false, Bool.false_and, zz, zzN, ↓reduceIte, Nat.reduceEqDiff, Nat.reduceBEq, Int.reduceLT, Int.reduceLE, Int.reduceToNat, Int.reduceEq, Int.reduceAdd, Int.reduceSub, Int.reduceMul, Int.reduceNeg, Nat.reduceMul, Nat.reduceSub, Nat.reduceLeDiff, Nat.reduceLT, Int.reduceGT, Int.reduceBEq, Int.reduceBNe, reduceCtorEq, Nat.reduceAdd, Ins.map, Fr.ev, argFr, argE, binEv, intEv, shEv, strEv, unEv, Fr.mark, evRes, tup, lenD, lookupD, loadD, partD, storeD, cellsD, cellOk, setAt, objNe, objSame, eqEv, readEv, buildD, buildRows, rowsOf, elemsOf]
          repeat (first | intro _ | refine And.intro (by omega) ?_)
          refine hQ (i + 1) _ _ ⟨by omega, by rw [hr]; omega⟩ ?_ (AHeap.sub_refl _) (by omega)
          simp only [hr, Int.natCast_nonneg, Nat.le_refl, Int.le_refl, List.take_succ_cons, List.take_zero, decide_true, decide_false, Bool.and_false, Bool.false_and, zz, zzN, ↓reduceIte, Nat.reduceEqDiff, Nat.reduceBEq, Int.reduceLT, Int.reduceLE, Int.reduceToNat, Int.reduceEq, Int.reduceAdd, Int.reduceSub, Int.reduceMul, Int.reduceNeg, Nat.reduceMul, Nat.reduceSub, Nat.reduceLeDiff, Nat.reduceLT, Int.reduceGT, Int.reduceBEq, Int.reduceBNe, reduceCtorEq, Nat.reduceAdd, Ins.map, Fr.ev, argFr, argE, binEv, intEv, shEv, strEv, unEv, Fr.mark, evRes, tup, lenD, lookupD, loadD, partD, storeD, cellsD, cellOk, setAt, objNe, objSame, eqEv, readEv, buildD, buildRows, rowsOf, elemsOf]
    · have g2 : ((i : Int) < (T.length : Int)) = True := by simp; omega
      simp (config := {maxSteps := 1000000}) only [g2, cb, len_encT, false_implies, tb39_e, Int.natCast_nonneg, Nat.le_refl, Int.le_refl, List.take_succ_cons, List.take_zero, decide_true, decide_false, Bool.and_false, Bool.false_and, zz, zzN, ↓reduceIte, Nat.reduceEqDiff, Nat.reduceBEq, Int.reduceLT, Int.reduceLE, Int.reduceToNat, Int.reduceEq, Int.reduceAdd, Int.reduceSub, Int.reduceMul, Int.reduceNeg, Nat.reduceMul, Nat.reduceSub, Nat.reduceLeDiff, Nat.reduceLT, Int.reduceGT, Int.reduceBEq, Int.reduceBNe, reduceCtorEq, Nat.reduceAdd, Ins.map, Fr.ev, argFr, argE, binEv, intEv, shEv, strEv, unEv, Fr.mark, evRes, tup, lenD, lookupD, loadD, partD, storeD, cellsD, cellOk, setAt, objNe, objSame, eqEv, readEv, buildD, buildRows, rowsOf, elemsOf]
  · have g2 : ((i : Int) < (T.length : Int)) = False := by simp; omega
    have hiT : T.take i = T := List.take_of_length_le (by omega)
    rw [hiT] at hl
    obtain ⟨T', h1, h2⟩ := tokens_rend ht (sepOf picks) (sepOf_mem picks) (by omega)
    have hlen : T'.length = T.length := by have := congrArg List.length h2; simpa using this
    have b00 : ((0 : Int) != 0) = false := rfl
    simp (config := {maxSteps := 1000000}) only [g2, hiT, h1, hlen, b00, len_encT, q23, q25, tb39_e, Int.natCast_nonneg, Nat.le_refl, Int.le_refl, List.take_succ_cons, List.take_zero, decide_true, decide_false, Bool.and_false, Bool.false_and, zz, zzN, ↓reduceIte, Nat.reduceEqDiff, Nat.reduceBEq, Int.reduceLT, Int.reduceLE, Int.reduceToNat, Int.reduceEq, Int.reduceAdd, Int.reduceSub, Int.reduceMul, Int.reduceNeg, Nat.reduceMul, Nat.reduceSub, Nat.reduceLeDiff, Nat.reduceLT, Int.reduceGT, Int.reduceBEq, Int.reduceBNe, reduceCtorEq, Nat.reduceAdd, Ins.map, Fr.ev, argFr, argE, binEv, intEv, shEv, strEv, unEv, Fr.mark, evRes, tup, lenD, lookupD, loadD, partD, storeD, cellsD, cellOk, setAt, objNe, objSame, eqEv, readEv, buildD, buildRows, rowsOf, elemsOf]
    intro hb _ _
    refine run_loop (X := Nat) (fun j => [(5, .sl (encT T)), (11, .sl (encT T')), (14, .int .i64 j)]) (fun _ => .emp) (fun j => T.length - j) (fun j => j ≤ T.length) 0 (by simp) ?_ (AHeap.sub_refl _) ?_
    · simp only [Int.natCast_nonneg, Nat.le_refl, Int.le_refl, List.take_succ_cons, List.take_zero, decide_true, decide_false, Bool.and_false, Bool.false_and, zz, zzN, ↓reduceIte, Nat.reduceEqDiff, Nat.reduceBEq, Int.reduceLT, Int.reduceLE, Int.reduceToNat, Int.reduceEq, Int.reduceAdd, Int.reduceSub, Int.reduceMul, Int.reduceNeg, Nat.reduceMul, Nat.reduceSub, Nat.reduceLeDiff, Nat.reduceLT, Int.reduceGT, Int.reduceBEq, Int.reduceBNe, reduceCtorEq, Nat.reduceAdd, Ins.map, Fr.ev, argFr, argE, binEv, intEv, shEv, strEv, unEv, Fr.mark, evRes, tup, lenD, lookupD, loadD, partD, storeD, cellsD, cellOk, setAt, objNe, objSame, eqEv, readEv, buildD, buildRows, rowsOf, elemsOf]
    intro j Q2 hj hQ2
    by_cases c2 : j < T.length
    · have g3 : ((j : Int) < (T.length : Int)) = True := by simp; omega
      have wj : IntKind.i64.wrap ((j : Int) + 1) = ((j + 1 : Nat) : Int) := wrap_succ (by omega)
      obtain ⟨x, hx⟩ : ∃ x, T[j]? = some x := by rw [List.getElem?_eq_getElem c2]; exact ⟨_, rfl⟩
      obtain ⟨y, hy⟩ : ∃ y, T'[j]? = some y := by rw [List.getElem?_eq_getElem (by omega)]; exact ⟨_, rfl⟩
      have hxy : ks y = ks x := by
        have := congrArg (fun l => l[j]?) h2
        simpa [hx, hy] using this
      have e1 : y.1 = x.1 := congrArg (fun z : Int × List UInt8 => z.1) hxy
      have e2 : y.2.1 = x.2.1 := congrArg (fun z : Int × List UInt8 => z.2) hxy
      simp (config := {maxSteps := 1000000}) only [g3, wj, hx, hy, e1, e2, hlen, len_encT, askE_encT, strEv, tb39_e, Int.natCast_nonneg, Nat.le_refl, Int.le_refl, List.take_succ_cons, List.take_zero, decide_true, decide_false, Bool.and_false, Bool.false_and, zz, zzN, ↓reduceIte, Nat.reduceEqDiff, Nat.reduceBEq, Int.reduceLT, Int.reduceLE, Int.reduceToNat, Int.reduceEq, Int.reduceAdd, Int.reduceSub, Int.reduceMul, Int.reduceNeg, Nat.reduceMul, Nat.reduceSub, Nat.reduceLeDiff, Nat.reduceLT, Int.reduceGT, Int.reduceBEq, Int.reduceBNe, reduceCtorEq, Nat.reduceAdd, Ins.map, Fr.ev, argFr, argE, binEv, intEv, shEv, strEv, unEv, Fr.mark, evRes, tup, lenD, lookupD, loadD, partD, storeD, cellsD, cellOk, setAt, objNe, objSame, eqEv, readEv, buildD, buildRows, rowsOf, elemsOf]
      repeat (first | intro _ | refine And.intro (by omega) ?_)
      refine hQ2 (j + 1) _ _ (by omega) ?_ (AHeap.sub_refl _) (by omega)
      simp only [Int.natCast_nonneg, Nat.le_refl, Int.le_refl, List.take_succ_cons, List.take_zero, decide_true, decide_false, Bool.and_false, Bool.false_and, zz, zzN, ↓reduceIte, Nat.reduceEqDiff, Nat.reduceBEq, Int.reduceLT, Int.reduceLE, Int.reduceToNat, Int.reduceEq, Int.reduceAdd, Int.reduceSub, Int.reduceMul, Int.reduceNeg, Nat.reduceMul, Nat.reduceSub, Nat.reduceLeDiff, Nat.reduceLT, Int.reduceGT, Int.reduceBEq, Int.reduceBNe, reduceCtorEq, Nat.reduceAdd, Ins.map, Fr.ev, argFr, argE, binEv, intEv, shEv, strEv, unEv, Fr.mark, evRes, tup, lenD, lookupD, loadD, partD, storeD, cellsD, cellOk, setAt, objNe, objSame, eqEv, readEv, buildD, buildRows, rowsOf, elemsOf]
    · have g3 : ((j : Int) < (T.length : Int)) = False := by simp; omega
      simp (config := {maxSteps := 1000000}) only [g3, len_encT, tb39_e, Int.natCast_nonneg, Nat.le_refl, Int.le_refl, List.take_succ_cons, List.take_zero, decide_true, decide_false, Bool.and_false, Bool.false_and, zz, zzN, ↓reduceIte, Nat.reduceEqDiff, Nat.reduceBEq, Int.reduceLT, Int.reduceLE, Int.reduceToNat, Int.reduceEq, Int.reduceAdd, Int.reduceSub, Int.reduceMul, Int.reduceNeg, Nat.reduceMul, Nat.reduceSub, Nat.reduceLeDiff, Nat.reduceLT, Int.reduceGT, Int.reduceBEq, Int.reduceBNe, reduceCtorEq, Nat.reduceAdd, Ins.map, Fr.ev, argFr, argE, binEv, intEv, shEv, strEv, unEv, Fr.mark, evRes, tup, lenD, lookupD, loadD, partD, storeD, cellsD, cellOk, setAt, objNe, objSame, eqEv, readEv, buildD, buildRows, rowsOf, elemsOf]
end Go.Proofs.Ytaimobfakcompaa.Zz
