/- Contracts: lex: all words of a text. -/
import Derived.Test.YthpgepillaeldaaDoorZL3
namespace Go.Proofs.YthpgepillaeldaaDoor.Zz
set_option linter.unusedVariables false
set_option linter.unusedSimpArgs false
set_option maxRecDepth 20000


abbrev Tok := Int × List UInt8 × Int
def encT (l : List Tok) : List (List D) := l.map fun t => tokD t.1 t.2.1 t.2.2
theorem len_encT {l : List Tok} : (encT l).length = l.length := by simp [encT]
theorem encT_app {l : List Tok} {k : Int} {s : List UInt8} {a : Int} : encT l ++ [[.int .i64 k, .str s, .int .i64 a]] = encT (l ++ [(k, s, a)]) := by simp [encT, tokD]
theorem encT_nil : encT [] = [] := rfl
theorem encT_ne {l : List Tok} : l ≠ [] → encT l ≠ [] := by cases l <;> simp [encT]

/-- All words from a place on; else where one may not be. -/
def toksN : Nat → Nat → List UInt8 → List Tok → List Tok × Nat × Int
  | 0, _, _, out => (out, 0, 0)
  | n + 1, p, l, out =>
    if l = [] then (out ++ [(0, [], (p : Int))], 0, 0)
    else if (oneL l).2.2 = false then ([], p, 90)
    else toksN n (p + (oneL l).2.1.length + blankL (l.drop (oneL l).2.1.length)) (l.drop ((oneL l).2.1.length + blankL (l.drop (oneL l).2.1.length))) (out ++ [((oneL l).1, (oneL l).2.1, (p : Int))])
def tokens (s : List UInt8) : List Tok × Nat × Int := if 4096 < s.length then ([], 4096, 3) else toksN (s.length + 1) (blankL s) (s.drop (blankL s)) []

theorem firstPre_some : ∀ {l : List UInt8} {xs : List (List UInt8)} {x : List UInt8}, firstPre l xs = some x → x ∈ xs ∧ pre l x = true
  | l, [], x, h => by cases h
  | l, y :: xs, x, h => by
    simp only [firstPre] at h
    split at h
    · rename_i hp; cases h; exact ⟨by simp, hp⟩
    · have := firstPre_some h
      exact ⟨by simp [this.1], this.2⟩
theorem spn_pos {p : Int → Bool} {l : List UInt8} (hl : 0 < l.length) (h : p ((l.getD 0 0).toNat : Int) = true) : 0 < spn p l := by
  cases l with
  | nil => simp at hl
  | cons c l => rw [spn_cons, if_pos (by simpa using h)]; omega
theorem oneL_ok {l : List UInt8} (hl : 0 < l.length) (h : (oneL l).2.2 = true) : 1 ≤ (oneL l).2.1.length ∧ (oneL l).2.1.length ≤ l.length ∧ (oneL l).2.1 = l.take (oneL l).2.1.length ∧ (oneL l).1 ≠ 0 := by
  have tk : ∀ k : Nat, k ≤ l.length → 1 ≤ k → 1 ≤ (l.take k).length ∧ (l.take k).length ≤ l.length ∧ l.take k = l.take (l.take k).length := fun k h1 h2 => by
    have e : (l.take k).length = k := by simp; omega
    rw [e]; exact ⟨h2, h1, rfl⟩
  have t3 : ∀ {k : Nat} {x : Int}, k ≤ l.length → 1 ≤ k → x ≠ 0 → 1 ≤ (l.take k).length ∧ (l.take k).length ≤ l.length ∧ l.take k = l.take (l.take k).length ∧ x ≠ 0 := fun h1 h2 h3 => ⟨(tk _ h1 h2).1, (tk _ h1 h2).2.1, (tk _ h1 h2).2.2, h3⟩
  unfold oneL at h ⊢
  split
  · rename_i hd
    rw [if_pos hd] at h
    have h1 := spn_pos hl hd
    have h2 := spn_le isDigit l
    have h3 := spn_le isDigit (l.drop (spn isDigit l + 1))
    rw [List.length_drop] at h3
    unfold numL at h ⊢
    split
    · rename_i hc
      simp only [Bool.and_eq_true, decide_eq_true_eq] at hc
      exact t3 (by omega) (by omega) (by simp)
    · exact t3 h2 h1 (by simp)
  · rename_i hd
    rw [if_neg hd] at h
    split
    · rename_i ht
      rw [if_pos ht] at h
      have h1 := spn_pos (p := nameP) hl (by simp only [nameP, ht, Bool.true_or])
      have h2 := spn_le nameP l
      split
      · exact t3 h2 h1 (by simp)
      · exact t3 h2 h1 (by simp)
    · rename_i ht
      rw [if_neg ht] at h
      cases hf : firstPre l signs with
      | none => rw [hf] at h; cases h
      | some x =>
        obtain ⟨m, hp⟩ := firstPre_some hf
        simp only [pre, beq_iff_eq] at hp
        have hx : 1 ≤ x.length := by
          revert m; unfold signs; intro m
          simp only [List.mem_cons, List.not_mem_nil, or_false] at m
          rcases m with rfl | rfl | rfl | rfl | rfl | rfl | rfl | rfl | rfl | rfl | rfl | rfl | rfl | rfl | rfl | rfl | rfl | rfl | rfl | rfl | rfl | rfl <;> decide
        refine ⟨hx, ?_, hp.symm, by simp⟩
        have := congrArg List.length hp
        rw [List.length_take] at this
        simp only
        omega
set_option maxHeartbeats 1000000 in
theorem tokens_c (s : List UInt8) : PCall Tryd.prog 9 [.str s] (.tuple [.sl (encT (tokens s).1), .int .i64 (tokens s).2.1, .int .i64 (tokens s).2.2]) := by
  refine PCall.run tb51_ok st23 (by simp) fun E => ?_
  unfold tokens
  by_cases c0 : 4096 < s.length
  · have g1 : ((s.length : Int) > 4096) = True := by simp; omega
    simp only [c0, s23, g1, encT_nil, decide_true, tb51_e, zz, zzN, zzF, fltEv, isArithF, ↓reduceIte, Nat.reduceEqDiff, Nat.reduceBEq, Int.reduceLT, Int.reduceLE, Int.reduceToNat, Int.reduceEq, Int.reduceAdd, Int.reduceSub, Int.reduceMul, Int.reduceNeg, Nat.reduceMul, Nat.reduceSub, Nat.reduceLeDiff, Nat.reduceLT, Int.reduceGT, Int.reduceBEq, Int.reduceBNe, reduceCtorEq, Nat.reduceAdd, Ins.map, Fr.ev, argFr, argE, binEv, intEv, shEv, strEv, unEv, Fr.mark, evRes, tup, lenD, lookupD, loadD, partD, storeD, cellsD, cellOk, setAt, objNe, objSame, eqEv, readEv, buildD, buildRows, rowsOf, elemsOf]
    trace_state
  · have h2 : s.length ≤ 1000000 := by omega
    have g1 : ((s.length : Int) > 4096) = False := by simp; omega
    have g2 : (s.length ≤ 1000000) = True := by simp; omega
    have g2' : (s.length ≤ 100000) = True := by simp; omega
    have g3 : (0 ≤ (s.length : Int)) = True := by simp
    simp only [c0, s23, g1, g2, g3, q50, decide_false, tb51_e, zz, zzN, zzF, fltEv, isArithF, ↓reduceIte, Nat.reduceEqDiff, Nat.reduceBEq, Int.reduceLT, Int.reduceLE, Int.reduceToNat, Int.reduceEq, Int.reduceAdd, Int.reduceSub, Int.reduceMul, Int.reduceNeg, Nat.reduceMul, Nat.reduceSub, Nat.reduceLeDiff, Nat.reduceLT, Int.reduceGT, Int.reduceBEq, Int.reduceBNe, reduceCtorEq, Nat.reduceAdd, Ins.map, Fr.ev, argFr, argE, binEv, intEv, shEv, strEv, unEv, Fr.mark, evRes, tup, lenD, lookupD, loadD, partD, storeD, cellsD, cellOk, setAt, objNe, objSame, eqEv, readEv, buildD, buildRows, rowsOf, elemsOf]
    intro _
    generalize hR : toksN (s.length + 1) (blankL s) (s.drop (blankL s)) [] = R
    refine run_loop (X := Nat × List Tok × Nat × Nat) (fun x => [(0, .str s), (5, ownD x.2.2.1 x.2.1.length), (6, .int .i64 x.1)])
      (fun x => ownH .emp x.2.2.1 3 (encT x.2.1)) (fun x => x.2.2.2)
      (fun x => x.1 ≤ s.length ∧ x.2.1.length ≤ x.1 ∧ s.length < x.1 + x.2.2.2 ∧ toksN x.2.2.2 x.1 (s.drop x.1) x.2.1 = R) (blankL s, [], 0, s.length + 1) ⟨blankL_le _, by simp, by simp; omega, hR⟩ ?_ ?_ ?_
    · simp only [ownD, zz, zzN, zzF, fltEv, isArithF, ↓reduceIte, Nat.reduceEqDiff, Nat.reduceBEq, Int.reduceLT, Int.reduceLE, Int.reduceToNat, Int.reduceEq, Int.reduceAdd, Int.reduceSub, Int.reduceMul, Int.reduceNeg, Nat.reduceMul, Nat.reduceSub, Nat.reduceLeDiff, Nat.reduceLT, Int.reduceGT, Int.reduceBEq, Int.reduceBNe, reduceCtorEq, Nat.reduceAdd, Ins.map, Fr.ev, argFr, argE, binEv, intEv, shEv, strEv, unEv, Fr.mark, evRes, tup, lenD, lookupD, loadD, partD, storeD, cellsD, cellOk, setAt, objNe, objSame, eqEv, readEv, buildD, buildRows, rowsOf, elemsOf]
    · exact AHeap.sub_refl _
    · rintro ⟨p, out, r, n⟩ Q ⟨i1, i2, i3, i4⟩ hQ
      simp only at i1 i2 i3 i4 hQ ⊢
      obtain ⟨n, rfl⟩ : ∃ n', n = n' + 1 := ⟨n - 1, by omega⟩
      simp only [toksN] at i4
      by_cases c1 : p < s.length
      · have hne : s.drop p ≠ [] := by simp; omega
        rw [if_neg hne] at i4
        have g4 : ((p : Int) < (s.length : Int)) = True := by simp; omega
        have g5 : (0 ≤ (p : Int)) = True := by simp
        cases c2 : (oneL (s.drop p)).2.2 with
        | false =>
          rw [if_pos c2] at i4
          simp only [g2', g4, g5, c2, oneD, tokD, q51, q50, ← i4, encT_nil, decide_true, tb51_e, zz, zzN, zzF, fltEv, isArithF, ↓reduceIte, Nat.reduceEqDiff, Nat.reduceBEq, Int.reduceLT, Int.reduceLE, Int.reduceToNat, Int.reduceEq, Int.reduceAdd, Int.reduceSub, Int.reduceMul, Int.reduceNeg, Nat.reduceMul, Nat.reduceSub, Nat.reduceLeDiff, Nat.reduceLT, Int.reduceGT, Int.reduceBEq, Int.reduceBNe, reduceCtorEq, Nat.reduceAdd, Ins.map, Fr.ev, argFr, argE, binEv, intEv, shEv, strEv, unEv, Fr.mark, evRes, tup, lenD, lookupD, loadD, partD, storeD, cellsD, cellOk, setAt, objNe, objSame, eqEv, readEv, buildD, buildRows, rowsOf, elemsOf]
        | true =>
          rw [if_neg (by rw [c2]; exact Bool.noConfusion)] at i4
          obtain ⟨b1, b2, b3, b4⟩ := oneL_ok (by simp; omega) c2
          have lb := blankL_le ((s.drop p).drop (oneL (s.drop p)).2.1.length)
          have eb : s.drop (p + (oneL (s.drop p)).2.1.length) = (s.drop p).drop (oneL (s.drop p)).2.1.length := by rw [List.drop_drop]
          rcases hone : oneL (s.drop p) with ⟨kd, tx, ok⟩
          simp only [hone] at i4 c2 b1 b2 b3 b4 lb eb
          subst c2
          obtain ⟨bl, hbl⟩ : ∃ bl, bl = blankL ((s.drop p).drop tx.length) := ⟨_, rfl⟩
          rw [← hbl] at i4 lb
          simp only [List.length_drop] at lb b2
          have w1 : IntKind.i64.wrap ((p : Int) + (tx.length : Int)) = ((p + tx.length : Nat) : Int) := wrap_add (by omega)
          have w2 : IntKind.i64.wrap (((p + tx.length : Nat) : Int) + (bl : Int)) = ((p + tx.length + bl : Nat) : Int) := wrap_add (by omega)
          have g6 : (((p + tx.length : Nat) : Int) ≤ (s.length : Int)) = True := by simp; omega
          have g7 : (0 ≤ ((p + tx.length : Nat) : Int)) = True := by simp; omega
          have ed : s.drop (p + tx.length + bl) = (s.drop p).drop (tx.length + bl) := by rw [List.drop_drop, Nat.add_assoc]
          by_cases ho : out = []
          · subst ho
            simp only [g2, g2', g4, g5, b4, hone, encT_nil, ownD_zero, ownH_nil, oneD, tokD, q51, q50, List.take_succ_cons, List.take_zero, decide_true, tb51_e, zz, zzN, zzF, fltEv, isArithF, ↓reduceIte, Nat.reduceEqDiff, Nat.reduceBEq, Int.reduceLT, Int.reduceLE, Int.reduceToNat, Int.reduceEq, Int.reduceAdd, Int.reduceSub, Int.reduceMul, Int.reduceNeg, Nat.reduceMul, Nat.reduceSub, Nat.reduceLeDiff, Nat.reduceLT, Int.reduceGT, Int.reduceBEq, Int.reduceBNe, reduceCtorEq, Nat.reduceAdd, Ins.map, Fr.ev, argFr, argE, binEv, intEv, shEv, strEv, unEv, Fr.mark, evRes, tup, lenD, lookupD, loadD, partD, storeD, cellsD, cellOk, setAt, objNe, objSame, eqEv, readEv, buildD, buildRows, rowsOf, elemsOf]
            intro _ id id2 f1 f2
            simp only [g2, g2', g4, g5, g6, g7, b4, hone, f1, f2, w1, w2, eb, ← hbl, encT_nil, ownD_zero, ownH_nil, oneD, tokD, q51, q50, List.take_succ_cons, List.take_zero, decide_true, tb51_e, zz, zzN, zzF, fltEv, isArithF, ↓reduceIte, Nat.reduceEqDiff, Nat.reduceBEq, Int.reduceLT, Int.reduceLE, Int.reduceToNat, Int.reduceEq, Int.reduceAdd, Int.reduceSub, Int.reduceMul, Int.reduceNeg, Nat.reduceMul, Nat.reduceSub, Nat.reduceLeDiff, Nat.reduceLT, Int.reduceGT, Int.reduceBEq, Int.reduceBNe, reduceCtorEq, Nat.reduceAdd, Ins.map, Fr.ev, argFr, argE, binEv, intEv, shEv, strEv, unEv, Fr.mark, evRes, tup, lenD, lookupD, loadD, partD, storeD, cellsD, cellOk, setAt, objNe, objSame, eqEv, readEv, buildD, buildRows, rowsOf, elemsOf]
            intro _
            refine hQ (p + tx.length + bl, [(kd, tx, (p : Int))], id2, n) _ _ ⟨by simp only; omega, by simp only [List.length_singleton]; omega, by simp only; omega, by simp only [ed]; exact i4⟩ ?_ ?_ (Nat.lt_succ_self n)
            · simp only [ownD, zz, zzN, zzF, fltEv, isArithF, ↓reduceIte, Nat.reduceEqDiff, Nat.reduceBEq, Int.reduceLT, Int.reduceLE, Int.reduceToNat, Int.reduceEq, Int.reduceAdd, Int.reduceSub, Int.reduceMul, Int.reduceNeg, Nat.reduceMul, Nat.reduceSub, Nat.reduceLeDiff, Nat.reduceLT, Int.reduceGT, Int.reduceBEq, Int.reduceBNe, reduceCtorEq, Nat.reduceAdd, Ins.map, Fr.ev, argFr, argE, binEv, intEv, shEv, strEv, unEv, Fr.mark, evRes, tup, lenD, lookupD, loadD, partD, storeD, cellsD, cellOk, setAt, objNe, objSame, eqEv, readEv, buildD, buildRows, rowsOf, elemsOf]
            · simp only [ownH, encT, tokD, zz, zzN, zzF, fltEv, isArithF, ↓reduceIte, Nat.reduceEqDiff, Nat.reduceBEq, Int.reduceLT, Int.reduceLE, Int.reduceToNat, Int.reduceEq, Int.reduceAdd, Int.reduceSub, Int.reduceMul, Int.reduceNeg, Nat.reduceMul, Nat.reduceSub, Nat.reduceLeDiff, Nat.reduceLT, Int.reduceGT, Int.reduceBEq, Int.reduceBNe, reduceCtorEq, Nat.reduceAdd, Ins.map, Fr.ev, argFr, argE, binEv, intEv, shEv, strEv, unEv, Fr.mark, evRes, tup, lenD, lookupD, loadD, partD, storeD, cellsD, cellOk, setAt, objNe, objSame, eqEv, readEv, buildD, buildRows, rowsOf, elemsOf]
              exact AHeap.sub_X (by repeat' first | with_reducible exact AHeap.subX_refl | with_reducible exact AHeap.subX_emp | refine AHeap.subX_l (by simp [f1, f2]) ?_ | refine AHeap.subX_r (by simp [f1, f2]) ?_)
          · have ho2 := encT_ne ho
            have ho3 : out.length ≠ 0 := fun h => ho (List.length_eq_zero_iff.1 h)
            simp only [g2, g2', g4, g5, b4, hone, ownD_pos ho3, ownH_pos ho2, len_encT, oneD, tokD, q51, q50, List.take_succ_cons, List.take_zero, decide_true, tb51_e, zz, zzN, zzF, fltEv, isArithF, ↓reduceIte, Nat.reduceEqDiff, Nat.reduceBEq, Int.reduceLT, Int.reduceLE, Int.reduceToNat, Int.reduceEq, Int.reduceAdd, Int.reduceSub, Int.reduceMul, Int.reduceNeg, Nat.reduceMul, Nat.reduceSub, Nat.reduceLeDiff, Nat.reduceLT, Int.reduceGT, Int.reduceBEq, Int.reduceBNe, reduceCtorEq, Nat.reduceAdd, Ins.map, Fr.ev, argFr, argE, binEv, intEv, shEv, strEv, unEv, Fr.mark, evRes, tup, lenD, lookupD, loadD, partD, storeD, cellsD, cellOk, setAt, objNe, objSame, eqEv, readEv, buildD, buildRows, rowsOf, elemsOf]
            intro _ id f1 f2
            have h3 : (∀ y ∈ [[D.int IntKind.i64 kd, D.str tx, D.int IntKind.i64 (p : Int)]], y.length = 3 ∧ y.all cellOk = true) := by simp [cellOk]
            have a1 : (encT out).length = out.length := len_encT
            simp only [g2, g2', g4, g5, g6, g7, b4, hone, f1, f2, w1, w2, eb, ← hbl, a1, oneD, tokD, q51, q50, List.take_succ_cons, List.take_zero, decide_true, tb51_e, zz, zzN, zzF, fltEv, isArithF, ↓reduceIte, Nat.reduceEqDiff, Nat.reduceBEq, Int.reduceLT, Int.reduceLE, Int.reduceToNat, Int.reduceEq, Int.reduceAdd, Int.reduceSub, Int.reduceMul, Int.reduceNeg, Nat.reduceMul, Nat.reduceSub, Nat.reduceLeDiff, Nat.reduceLT, Int.reduceGT, Int.reduceBEq, Int.reduceBNe, reduceCtorEq, Nat.reduceAdd, Ins.map, Fr.ev, argFr, argE, binEv, intEv, shEv, strEv, unEv, Fr.mark, evRes, tup, lenD, lookupD, loadD, partD, storeD, cellsD, cellOk, setAt, objNe, objSame, eqEv, readEv, buildD, buildRows, rowsOf, elemsOf]
            refine ⟨by omega, fun _ => ?_⟩
            have ho5 : out.length + 1 ≠ 0 := by simp
            refine hQ (p + tx.length + bl, out ++ [(kd, tx, (p : Int))], r, n) _ _ ⟨by simp only; omega, by simp only [List.length_append, List.length_singleton]; omega, by simp only; omega, by simp only [ed]; exact i4⟩ ?_ ?_ (Nat.lt_succ_self n)
            · have e9 : out.length + 2 + 1 = out.length + 1 + 2 := by omega
              simp only [ownD_pos ho5, List.length_append, e9, zz, zzN, zzF, fltEv, isArithF, ↓reduceIte, Nat.reduceEqDiff, Nat.reduceBEq, Int.reduceLT, Int.reduceLE, Int.reduceToNat, Int.reduceEq, Int.reduceAdd, Int.reduceSub, Int.reduceMul, Int.reduceNeg, Nat.reduceMul, Nat.reduceSub, Nat.reduceLeDiff, Nat.reduceLT, Int.reduceGT, Int.reduceBEq, Int.reduceBNe, reduceCtorEq, Nat.reduceAdd, Ins.map, Fr.ev, argFr, argE, binEv, intEv, shEv, strEv, unEv, Fr.mark, evRes, tup, lenD, lookupD, loadD, partD, storeD, cellsD, cellOk, setAt, objNe, objSame, eqEv, readEv, buildD, buildRows, rowsOf, elemsOf]
            · have e9 : out.length + 1 + 2 = out.length + 2 + 1 := by omega
              rw [ownH_pos (encT_ne (List.append_ne_nil_of_right_ne_nil out (List.cons_ne_nil _ _))), len_encT, ← encT_app, List.length_append, List.length_singleton, e9]
              exact AHeap.sub_X (by repeat' first | with_reducible exact AHeap.subX_refl | with_reducible exact AHeap.subX_emp | refine AHeap.subX_l (by simp [f1, f2]) ?_ | refine AHeap.subX_r (by simp [f1, f2]) ?_)
      · have g4 : ((p : Int) < (s.length : Int)) = False := by simp; omega
        have e : s.drop p = [] := List.drop_of_length_le (by omega)
        have hp : p = s.length := by omega
        subst hp
        rw [if_pos e] at i4
        by_cases ho : out = []
        · subst ho
          simp only [g4, ← i4, encT_nil, ownD_zero, ownH_nil, List.take_succ_cons, List.take_zero, decide_false, tb51_e, zz, zzN, zzF, fltEv, isArithF, ↓reduceIte, Nat.reduceEqDiff, Nat.reduceBEq, Int.reduceLT, Int.reduceLE, Int.reduceToNat, Int.reduceEq, Int.reduceAdd, Int.reduceSub, Int.reduceMul, Int.reduceNeg, Nat.reduceMul, Nat.reduceSub, Nat.reduceLeDiff, Nat.reduceLT, Int.reduceGT, Int.reduceBEq, Int.reduceBNe, reduceCtorEq, Nat.reduceAdd, Ins.map, Fr.ev, argFr, argE, binEv, intEv, shEv, strEv, unEv, Fr.mark, evRes, tup, lenD, lookupD, loadD, partD, storeD, cellsD, cellOk, setAt, objNe, objSame, eqEv, readEv, buildD, buildRows, rowsOf, elemsOf]
          exact fun _ _ => rfl
        · have ho2 := encT_ne ho
          have ho3 : out.length ≠ 0 := fun h => ho (List.length_eq_zero_iff.1 h)
          simp only [g4, ← i4, ownD_pos ho3, ownH_pos ho2, len_encT, List.take_succ_cons, List.take_zero, decide_false, tb51_e, zz, zzN, zzF, fltEv, isArithF, ↓reduceIte, Nat.reduceEqDiff, Nat.reduceBEq, Int.reduceLT, Int.reduceLE, Int.reduceToNat, Int.reduceEq, Int.reduceAdd, Int.reduceSub, Int.reduceMul, Int.reduceNeg, Nat.reduceMul, Nat.reduceSub, Nat.reduceLeDiff, Nat.reduceLT, Int.reduceGT, Int.reduceBEq, Int.reduceBNe, reduceCtorEq, Nat.reduceAdd, Ins.map, Fr.ev, argFr, argE, binEv, intEv, shEv, strEv, unEv, Fr.mark, evRes, tup, lenD, lookupD, loadD, partD, storeD, cellsD, cellOk, setAt, objNe, objSame, eqEv, readEv, buildD, buildRows, rowsOf, elemsOf]
          have a2 : (encT (out ++ [(0, [], (s.length : Int))])).take (out.length + 1) = encT (out ++ [(0, [], (s.length : Int))]) := List.take_of_length_le (by rw [len_encT]; simp)
          have a3 : out.length + 1 ≤ (encT (out ++ [(0, [], (s.length : Int))])).length := by rw [len_encT]; simp
          rw [encT_app, a2, if_pos a3]
          exact fun _ _ => ⟨by omega, rfl⟩
end Go.Proofs.YthpgepillaeldaaDoor.Zz
