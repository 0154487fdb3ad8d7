/- Contracts: the document's turn is the program's. -/
import Derived.Test.YtiilnakenlegmaaZK5
namespace Go.Proofs.Ytiilnakenlegmaa.Zz
set_option linter.unusedVariables false
set_option linter.unusedSimpArgs false
set_option maxRecDepth 20000
def decW : List D → Option (List W64)
  | [] => some []
  | .int .u64 n :: l => if n = ofW (BitVec.ofInt 64 n) then (decW l).map (BitVec.ofInt 64 n :: ·) else none
  | _ => none
theorem decW_enc (l : List W64) : decW (encW l) = some l := by
  induction l with
  | nil => rfl
  | cons s l ih =>
    show (if ofW s = ofW (BitVec.ofInt 64 (ofW s)) then (decW (encW l)).map (BitVec.ofInt 64 (ofW s) :: ·) else none) = _
    rw [ih, ofInt_ofW', if_pos rfl]; rfl
theorem decW_some : ∀ {l : List D} {x : List W64}, decW l = some x → l = encW x
  | [], x, h => by cases h; rfl
  | .int .u64 n :: l, x, h => by
    unfold decW at h
    split at h
    · rename_i hn
      simp only [Option.map_eq_some_iff] at h
      obtain ⟨y, h1, rfl⟩ := h
      rw [decW_some h1]
      show _ = D.int .u64 (ofW (BitVec.ofInt 64 n)) :: encW y
      rw [← hn]
    · cases h
def q26 : List D → Option D
  | [.agg s', .int .i64 r] => match decW s' with
    | some s => if (s.length = 25 ∧ 0 ≤ r ∧ r < 24) then some (.agg (encW (roundR s r.toNat))) else none
    | _ => none
  | _ => none
theorem q26_ok (args : List D) (d : D) (h : q26 args = some d) : PCall Try.prog 26 args d := by
  unfold q26 at h
  split at h
  · split at h
    · rename_i e0
      cases decW_some e0
      split at h
      · cases h; exact (by rename_i hc; obtain ⟨h1, h2, h3⟩ := hc; obtain ⟨m, rfl⟩ := Int.eq_ofNat_of_zero_le h2; exact round_c _ m h1 (by omega))
      · cases h
    · cases h
  · cases h

theorem q26_eq {s : List W64} {n : Nat} (h : n < 24) (hs : s.length = 25) : q26 [.agg (encW s), .int .i64 n] = some (.agg (encW (roundR s n))) := by
  simp only [q26, Int.toNat_natCast, decW_enc]
  rw [if_pos (by omega)]
def tb26 : Tab := tb29.addQ 26 q26
theorem tb26_q (g : FuncId) (args : List D) : tb26.q g args = if g = 26 then q26 args else tb29.q g args := rfl
theorem tb26_a : tb26.a = tb29.a := rfl
theorem tb26_c : tb26.c = tb29.c := rfl
theorem tb26_ok : tb26.ok Try.prog := Tab.addQ_ok tb29_ok q26_ok
theorem tb26_e : type_of% (And.intro (And.intro @tb26_q (And.intro @tb26_a @tb26_c)) @tb29_e) := (And.intro (And.intro @tb26_q (And.intro @tb26_a @tb26_c)) @tb29_e)

theorem plC_encW (h : AHeap) (l : List W64) : (encW l).map (plC h) = encW l := by
  induction l with
  | nil => rfl
  | cons s l ih => show plC h (.int .u64 (ofW s)) :: (encW l).map (plC h) = _; rw [ih]; rfl
theorem frz_encW (h : AHeap) (l : List W64) : frz h (.agg (encW l)) = h := by
  induction l with
  | nil => rfl
  | cons s l ih => show frz h (.agg (.int .u64 (ofW s) :: encW l)) = h; rw [frza_int]; exact ih
set_option maxHeartbeats 4000000 in
theorem refTurn_c (a : List W64) (ha : a.length = 25) : PCall Try.prog 10 [.agg (encW a)] (.agg (encW (turnR a 24))) := by
  refine PCall.run tb26_ok st10 (by simp) fun E => ?_
  have cW : ∀ l : List W64, (encW l).all cellOk = true := fun l => by simp [encW, cellOk]
  simp (config := {maxSteps := 1000000}) only [s10, cW, tb26_e, Int.natCast_nonneg, Nat.le_refl, Int.le_refl, List.take_succ_cons, List.take_zero, decide_true, decide_false, Bool.and_false, Bool.false_and, zz, zzN, zzF, fltEv, isArithF, ↓reduceIte, Nat.reduceEqDiff, Nat.reduceBEq, Int.reduceLT, Int.reduceLE, Int.reduceToNat, Int.reduceEq, Int.reduceAdd, Int.reduceSub, Int.reduceMul, Int.reduceNeg, Nat.reduceMul, Nat.reduceSub, Nat.reduceLeDiff, Nat.reduceLT, Int.reduceGT, Int.reduceBEq, Int.reduceBNe, reduceCtorEq, Nat.reduceAdd, Ins.map, Fr.ev, argFr, argE, binEv, intEv, shEv, strEv, unEv, Fr.mark, evRes, tup, lenD, lookupD, loadD, partD, storeD, cellsD, cellOk, setAt, objNe, objSame, eqEv, readEv, buildD, buildRows, rowsOf, elemsOf]
  intro b c n1 n2
  refine run_loop (X := Nat) (fun r => [(1, .ptr b 1 0), (2, .ptr c 1 0), (3, .int .i64 r)]) (fun r => (AHeap.emp.set b (.cells (encW (turnR a r)))).set c (.cells (List.replicate 25 (.int .u64 0)))) (fun r => 24 - r) (fun r => r ≤ 24) 0 (by simp) ?_ ?_ ?_
  · simp only [Int.natCast_nonneg, Nat.le_refl, Int.le_refl, List.take_succ_cons, List.take_zero, decide_true, decide_false, Bool.and_false, Bool.false_and, zz, zzN, zzF, fltEv, isArithF, ↓reduceIte, Nat.reduceEqDiff, Nat.reduceBEq, Int.reduceLT, Int.reduceLE, Int.reduceToNat, Int.reduceEq, Int.reduceAdd, Int.reduceSub, Int.reduceMul, Int.reduceNeg, Nat.reduceMul, Nat.reduceSub, Nat.reduceLeDiff, Nat.reduceLT, Int.reduceGT, Int.reduceBEq, Int.reduceBNe, reduceCtorEq, Nat.reduceAdd, Ins.map, Fr.ev, argFr, argE, binEv, intEv, shEv, strEv, unEv, Fr.mark, evRes, tup, lenD, lookupD, loadD, partD, storeD, cellsD, cellOk, setAt, objNe, objSame, eqEv, readEv, buildD, buildRows, rowsOf, elemsOf]
  · exact AHeap.sub_refl _
  intro r Q hr hQ
  have lt : (turnR a r).length = 25 := by rw [len_turnR, ha]
  have ta := takeW lt
  by_cases c1 : r < 24
  · have g1 : ((r : Int) < 24) = True := by simp; omega
    have wi : IntKind.i64.wrap ((r : Int) + 1) = ((r + 1 : Nat) : Int) := wrap_succ (by omega)
    have f0 := turnR_succ a r
    generalize turnR a r = A at *
    have q1 := q26_eq c1 lt
    have l2 : (roundR A r).length = 25 := by rw [len_roundR, lt]
    have t2 := takeW l2
    simp (config := {maxSteps := 1000000}) only [g1, n1, n2, wi, cW, plC_encW, frz_encW, q1, ta, t2, setAt_all, len_encW, lt, l2, tb26_e, Int.natCast_nonneg, Nat.le_refl, Int.le_refl, List.take_succ_cons, List.take_zero, decide_true, decide_false, Bool.and_false, Bool.false_and, zz, zzN, zzF, fltEv, isArithF, ↓reduceIte, Nat.reduceEqDiff, Nat.reduceBEq, Int.reduceLT, Int.reduceLE, Int.reduceToNat, Int.reduceEq, Int.reduceAdd, Int.reduceSub, Int.reduceMul, Int.reduceNeg, Nat.reduceMul, Nat.reduceSub, Nat.reduceLeDiff, Nat.reduceLT, Int.reduceGT, Int.reduceBEq, Int.reduceBNe, reduceCtorEq, Nat.reduceAdd, Ins.map, Fr.ev, argFr, argE, binEv, intEv, shEv, strEv, unEv, Fr.mark, evRes, tup, lenD, lookupD, loadD, partD, storeD, cellsD, cellOk, setAt, objNe, objSame, eqEv, readEv, buildD, buildRows, rowsOf, elemsOf]
    refine hQ (r + 1) _ _ (by omega) (by simp only [Int.natCast_nonneg, Nat.le_refl, Int.le_refl, List.take_succ_cons, List.take_zero, decide_true, decide_false, Bool.and_false, Bool.false_and, zz, zzN, zzF, fltEv, isArithF, ↓reduceIte, Nat.reduceEqDiff, Nat.reduceBEq, Int.reduceLT, Int.reduceLE, Int.reduceToNat, Int.reduceEq, Int.reduceAdd, Int.reduceSub, Int.reduceMul, Int.reduceNeg, Nat.reduceMul, Nat.reduceSub, Nat.reduceLeDiff, Nat.reduceLT, Int.reduceGT, Int.reduceBEq, Int.reduceBNe, reduceCtorEq, Nat.reduceAdd, Ins.map, Fr.ev, argFr, argE, binEv, intEv, shEv, strEv, unEv, Fr.mark, evRes, tup, lenD, lookupD, loadD, partD, storeD, cellsD, cellOk, setAt, objNe, objSame, eqEv, readEv, buildD, buildRows, rowsOf, elemsOf]) ?_ (by omega)
    rw [f0]
    exact AHeap.sub_X (by repeat' first | with_reducible exact AHeap.subX_refl | with_reducible exact AHeap.subX_emp | refine AHeap.subX_l (by simp [n1, n2]) ?_ | refine AHeap.subX_r (by simp [n1, n2]) ?_)
  · have g1 : ((r : Int) < 24) = False := by simp; omega
    have hc : r = 24 := by omega
    subst hc
    simp (config := {maxSteps := 1000000}) only [g1, n1, n2, cW, ta, setAt_all, len_encW, lt, tb26_e, Int.natCast_nonneg, Nat.le_refl, Int.le_refl, List.take_succ_cons, List.take_zero, decide_true, decide_false, Bool.and_false, Bool.false_and, zz, zzN, zzF, fltEv, isArithF, ↓reduceIte, Nat.reduceEqDiff, Nat.reduceBEq, Int.reduceLT, Int.reduceLE, Int.reduceToNat, Int.reduceEq, Int.reduceAdd, Int.reduceSub, Int.reduceMul, Int.reduceNeg, Nat.reduceMul, Nat.reduceSub, Nat.reduceLeDiff, Nat.reduceLT, Int.reduceGT, Int.reduceBEq, Int.reduceBNe, reduceCtorEq, Nat.reduceAdd, Ins.map, Fr.ev, argFr, argE, binEv, intEv, shEv, strEv, unEv, Fr.mark, evRes, tup, lenD, lookupD, loadD, partD, storeD, cellsD, cellOk, setAt, objNe, objSame, eqEv, readEv, buildD, buildRows, rowsOf, elemsOf]
end Go.Proofs.Ytiilnakenlegmaa.Zz
