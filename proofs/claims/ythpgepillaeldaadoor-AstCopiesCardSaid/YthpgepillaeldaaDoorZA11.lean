/- The law of copies: its walk. -/
import Derived.Test.YthpgepillaeldaaDoorZA10
namespace Go.Proofs.YthpgepillaeldaaDoor.Zz
noncomputable section
set_option linter.unusedVariables false
set_option linter.unusedSimpArgs false
set_option maxRecDepth 20000
def p5n : Plan := ⟨⟨[], [(3, 1)], [], [], [], []⟩, [(2, [0, 3, 1, 2, 4, 5, 6, 7])]⟩
/-- cupel/cupellaw10.AstCopies (2 parameters, 0 captured) -/
def s5n : Stm :=
  .seq (.ops [⟨.mov (.c (.bool false)), (some 4), none, true⟩])
  (.seq (.ops [⟨.mov (.t 0), (some 9), none, true⟩,
     ⟨.qcall (.f 15) [(.t 9)], (some 10), none, false⟩,
     ⟨.mov (.t 1), (some 11), none, true⟩,
     ⟨.qcall (.f 15) [(.t 11)], (some 12), none, false⟩,
     ⟨.alloc [(.int .i64 0), (.int .i64 0), (.str []), (.int .i64 0), .nilsl], (some 5), none, false⟩,
     ⟨.alloc [(.int .i64 0), (.int .i64 0), (.str []), (.int .i64 0), .nilsl], (some 6), none, false⟩,
     ⟨.store 5 (.t 5) (.t 10), none, none, false⟩,
     ⟨.store 5 (.t 6) (.t 12), none, none, false⟩])
  (.seq (.ops [⟨.load (some 5) (.t 5), (some 13), none, false⟩,
     ⟨.load (some 5) (.t 6), (some 16), none, false⟩,
     ⟨.qcall (.f 17) [(.t 13)], (some 14), none, false⟩,
     ⟨.qcall (.f 16) [(.t 14)], (some 15), none, false⟩,
     ⟨.qcall (.f 17) [(.t 16)], (some 17), none, false⟩,
     ⟨.qcall (.f 16) [(.t 17)], (some 18), none, false⟩,
     ⟨.bin .eql (.t 15) (.t 18), (some 19), none, true⟩,
     ⟨.mov (.t 19), (some 7), none, true⟩])
  (.seq (.ops [⟨.load (some 5) (.t 5), (some 20), none, false⟩,
     ⟨.call (.f 18) [(.t 20)], (some 21), none, false⟩,
     ⟨.alloc [(.int .i64 0), (.int .i64 0), (.str []), (.int .i64 0), .nilsl], (some 8), none, false⟩,
     ⟨.store 5 (.t 8) (.t 21), none, none, false⟩])
  (.seq (.seq (.ops [⟨.qcall (.f 12) [], (some 22), none, false⟩,
      ⟨.un .not (.t 22), (some 23), none, true⟩,
      ⟨.mov (.t 23), (some 24), none, true⟩,
      ⟨.load (some 5) (.t 5), (some 25), (some (24, false)), false⟩,
      ⟨.load (some 5) (.t 6), (some 26), (some (24, false)), false⟩,
      ⟨.qcall (.f 19) [(.t 25), (.t 26)], (some 27), (some (24, false)), false⟩,
      ⟨.mov (.t 7), (some 28), (some (24, false)), true⟩,
      ⟨.eql .bool true (.t 27) (.t 28), (some 29), (some (24, false)), true⟩,
      ⟨.pick (.t 24) (.c (.bool true)) (.t 29), (some 30), none, true⟩,
      ⟨.mov (.t 30), (some 31), none, true⟩,
      ⟨.load (some 5) (.t 5), (some 32), (some (31, false)), false⟩,
      ⟨.load (some 5) (.t 8), (some 33), (some (31, false)), false⟩,
      ⟨.qcall (.f 19) [(.t 32), (.t 33)], (some 34), (some (31, false)), false⟩,
      ⟨.un .not (.t 34), (some 35), (some (31, false)), true⟩,
      ⟨.pick (.t 31) (.c (.bool true)) (.t 35), (some 36), none, true⟩])
   (.cond (.t 36)
    (.seq (.ops [⟨.mov (.c (.bool false)), (some 4), none, true⟩])
     (.ret))
    (.skip)))
  (.seq (.seq (.ops [⟨.fieldAddr 4 (.t 8), (some 37), none, true⟩,
      ⟨.load none (.t 37), (some 38), none, false⟩,
      ⟨.len .sl (.t 38), (some 39), none, false⟩,
      ⟨.bin .gtr (.t 39) (.c (.int .i64 0)), (some 40), none, true⟩])
   (.cond (.t 40)
    (.seq (.ops [⟨.fieldAddr 4 (.t 8), (some 41), none, true⟩,
        ⟨.load none (.t 41), (some 42), none, false⟩,
        ⟨.indexAddrS 5 (.t 42) (.c (.int .i64 0)), (some 43), none, false⟩,
        ⟨.fieldAddr 2 (.t 43), (some 44), none, true⟩,
        ⟨.load none (.t 44), (some 45), none, false⟩,
        ⟨.bin .add (.t 45) (.c (.str [120])), (some 46), none, true⟩,
        ⟨.indexAddrS 5 (.t 42) (.c (.int .i64 0)), (some 47), none, false⟩,
        ⟨.fieldAddr 2 (.t 47), (some 48), none, true⟩,
        ⟨.store 1 (.t 48) (.t 46), none, none, false⟩])
     (.seq (.ops [⟨.load (some 5) (.t 5), (some 49), none, false⟩,
        ⟨.load (some 5) (.t 8), (some 50), none, false⟩,
        ⟨.qcall (.f 19) [(.t 49), (.t 50)], (some 51), none, false⟩,
        ⟨.un .not (.t 51), (some 52), none, true⟩,
        ⟨.mov (.t 52), (some 4), none, true⟩])
     (.ret)))
    (.skip)))
  (.seq (.ops [⟨.mov (.c (.bool true)), (some 4), none, true⟩])
  (.ret)))))))
theorem st5n : stmOf Tryd.prog 5 p5n = some (s5n, [.tmp 4], 53) := by kernel_rfl

def tb18n : Tab := tb12n.addW 18 c18n c18n_mono
theorem tb18n_q : tb18n.q = tb12n.q := rfl
theorem tb18n_a : tb18n.a = tb12n.a := rfl
theorem tb18n_c (g : FuncId) (args : List D) (h : AHeap) (K E : D → AHeap → Prop) : tb18n.c g args h K E = if g = 18 then c18n args h K else tb12n.c g args h K E := rfl
theorem tb18n_ok : tb18n.ok Tryd.prog := Tab.addW_ok tb12n_ok c18n_ok
theorem tb18n_e : type_of% (And.intro (And.intro @tb18n_q (And.intro @tb18n_a @tb18n_c)) @tb12n_e) := (And.intro (And.intro @tb18n_q (And.intro @tb18n_a @tb18n_c)) @tb12n_e)

def q15n : List D → Option D
  | [.sl ds] => match decTs ds with
    | some l => some (.agg (madeTop l).enc)
    | none => none
  | _ => none
theorem q15n_ok (args : List D) (d : D) (h : q15n args = some d) : PCall Tryd.prog 15 args d := by
  unfold q15n at h
  split at h
  · split at h
    · rename_i e
      cases h
      rw [decTs_some e]
      exact madeTop_c _
    · cases h
  · cases h
theorem q15n_eq (l : List Tr) : q15n [.sl (encTs l)] = some (.agg (madeTop l).enc) := by simp only [q15n, decTs_enc]
def tb15n : Tab := tb18n.addQ 15 q15n
theorem tb15n_q (g : FuncId) (args : List D) : tb15n.q g args = if g = 15 then q15n args else tb18n.q g args := rfl
theorem tb15n_a : tb15n.a = tb18n.a := rfl
theorem tb15n_c : tb15n.c = tb18n.c := rfl
theorem tb15n_ok : tb15n.ok Tryd.prog := Tab.addQ_ok tb18n_ok q15n_ok
theorem tb15n_e : type_of% (And.intro (And.intro @tb15n_q (And.intro @tb15n_a @tb15n_c)) @tb18n_e) := (And.intro (And.intro @tb15n_q (And.intro @tb15n_a @tb15n_c)) @tb18n_e)

def q17n := qN (fun n => decide (n.cnt < 1000000000)) fun n => .agg n.enc
theorem q17n_ok (args : List D) (d : D) (h : q17n args = some d) : PCall Tryd.prog 17 args d := qN_ok (fun n h => ref_c n (by simpa using h)) args d h
def tb17n : Tab := tb15n.addQ 17 q17n
theorem tb17n_q (g : FuncId) (args : List D) : tb17n.q g args = if g = 17 then q17n args else tb15n.q g args := rfl
theorem tb17n_a : tb17n.a = tb15n.a := rfl
theorem tb17n_c : tb17n.c = tb15n.c := rfl
theorem tb17n_ok : tb17n.ok Tryd.prog := Tab.addQ_ok tb15n_ok q17n_ok
theorem tb17n_e : type_of% (And.intro (And.intro @tb17n_q (And.intro @tb17n_a @tb17n_c)) @tb15n_e) := (And.intro (And.intro @tb17n_q (And.intro @tb17n_a @tb17n_c)) @tb15n_e)

def q16n := qN (fun n => decide (n.cnt < 1000000000) && qLen n) fun n => .str (encF n)
theorem q16n_ok (args : List D) (d : D) (h : q16n args = some d) : PCall Tryd.prog 16 args d := qN_ok (fun n h => by
  simp only [Bool.and_eq_true, decide_eq_true_eq] at h
  exact bytesN_c n h.1 h.2) args d h
def tb16n : Tab := tb17n.addQ 16 q16n
theorem tb16n_q (g : FuncId) (args : List D) : tb16n.q g args = if g = 16 then q16n args else tb17n.q g args := rfl
theorem tb16n_a : tb16n.a = tb17n.a := rfl
theorem tb16n_c : tb16n.c = tb17n.c := rfl
theorem tb16n_ok : tb16n.ok Tryd.prog := Tab.addQ_ok tb17n_ok q16n_ok
theorem tb16n_e : type_of% (And.intro (And.intro @tb16n_q (And.intro @tb16n_a @tb16n_c)) @tb17n_e) := (And.intro (And.intro @tb16n_q (And.intro @tb16n_a @tb16n_c)) @tb17n_e)

theorem q19n_eq {n m : Nd} (h : n.cnt < 9223372036854775807) : q19n [.agg n.enc, .agg m.enc] = some (.bool (sameN n m)) := by
  simp only [q19n, qSame, decN_enc]; rw [if_pos h]
theorem q12n_eq : q12n [] = some (.bool true) := by simp only [q12n, if_true]
theorem astCopies_c (a b : List Tr) (ha : trOk a) (hb : trOk b) : PCall Tryd.prog 5 [.sl (encTs a), .sl (encTs b)] (.bool true) := by
  refine PCall.run tb16n_ok st5n (by simp) fun E => ?_
  have wx := madeTop_wf ha
  have wy := madeTop_wf hb
  have nx := madeTop_cnt a
  have ny := madeTop_cnt b
  have ea := q15n_eq a
  have eb := q15n_eq b
  generalize madeTop a = x at *
  generalize madeTop b = y at *
  have lx := encF_len x wx
  have ly := encF_len y wy
  have r1 : q17n [.agg x.enc] = some (.agg x.enc) := qN_eq (by simp; omega)
  have r2 : q17n [.agg y.enc] = some (.agg y.enc) := qN_eq (by simp; omega)
  have b1 : q16n [.agg x.enc] = some (.str (encF x)) := qN_eq (by simp [qLen]; omega)
  have b2 : q16n [.agg y.enc] = some (.str (encF y)) := qN_eq (by simp [qLen]; omega)
  have s1n : q19n [.agg x.enc, .agg y.enc] = some (.bool (sameN x y)) := q19n_eq (by omega)
  have s2n : ∀ z : Nd, q19n [.agg x.enc, .agg z.enc] = some (.bool (sameN x z)) := fun z => q19n_eq (by omega)
  have hsame : (encF x == encF y) = sameN x y := by
    rw [Bool.eq_iff_iff, sameN_iff, beq_iff_eq]
    constructor
    · intro e
      exact (encF_inj x wx y wy [] [] (by rw [e])).1
    · intro e; rw [e]
  have hsym : (sameN x y != sameN x y) = false := by simp
  have c0n : ∀ (h : AHeap) (K : D → AHeap → Prop), (∀ r h', (x.kids ≠ [] → h.f r = none ∧ h'.f r = some (.row 5 (x.kids.length + 2) (Nd.encs x.kids) false)) → (∀ j, h.f j ≠ none → h'.f j = h.f j) → K (.agg (encO x r)) h') → c18n [.agg x.enc] h K := fun h K k => ⟨x, rfl, by omega, .inr k⟩
  clear ha hb
  have s3n := s2n x
  rw [sameN_iff.2 rfl] at s3n
  have hdif : ∀ z : Nd, x ≠ z → sameN x z = false := fun z hz => by
    cases e : sameN x z with
    | false => rfl
    | true => exact absurd (sameN_iff.1 e) hz
  generalize sameN x y = sm at *
  generalize encF x = fx at *
  generalize encF y = fy at *
  have px := part_enc x
  have py := part_enc y
  obtain ⟨k, t, s, n, l⟩ := x
  obtain ⟨k', t', s', n', l'⟩ := y
  simp only [enc_mk] at ea eb r1 r2 b1 b2 s1n s3n px py c0n
  simp (config := {maxSteps := 1000000}) only [s5n, ea, eb, tb41n_e, tbLp_e, tbRt_e, tb16n_e, i_callNe, keptAt, Int.natCast_nonneg, Nat.le_refl, Int.le_refl, List.take_succ_cons, List.take_zero, decide_true, decide_false, Bool.and_false, Bool.false_and, zz, zzN, zzF, fltEv, isArithF, ↓reduceIte, Nat.reduceEqDiff, Nat.reduceBEq, Int.reduceLT, Int.reduceLE, Int.reduceToNat, Int.reduceEq, Int.reduceAdd, Int.reduceSub, Int.reduceMul, Int.reduceNeg, Nat.reduceMul, Nat.reduceSub, Nat.reduceLeDiff, Nat.reduceLT, Int.reduceGT, Int.reduceGE, Int.reduceBEq, Int.reduceBNe, reduceCtorEq, Nat.reduceAdd, Ins.map, Fr.ev, argFr, argE, binEv, intEv, shEv, strEv, unEv, Fr.mark, evRes, tup, lenD, lookupD, loadD, partD, storeD, cellsD, cellOk, setAt, objNe, objSame, eqEv, readEv, lent_bool, lent_int, lent_float, lent_str, lent_agg, lent_tuple, lent_sl, lent_func, lent_iface, lent_nilif, lent_same, buildD, buildRows, rowsOf, elemsOf, normX, unnil, isNil, List.any_cons, List.any_nil, List.map_cons, List.map_nil, Bool.or_false, Bool.false_or, Bool.or_true, Bool.true_or, cond_true, cond_false]
  intro i5 i6 n1 n2
  simp (config := {maxSteps := 1000000}) only [n1, n2, r1, r2, b1, b2, hsame, tb41n_e, tbLp_e, tbRt_e, tb16n_e, i_callNe, keptAt, Int.natCast_nonneg, Nat.le_refl, Int.le_refl, List.take_succ_cons, List.take_zero, decide_true, decide_false, Bool.and_false, Bool.false_and, zz, zzN, zzF, fltEv, isArithF, ↓reduceIte, Nat.reduceEqDiff, Nat.reduceBEq, Int.reduceLT, Int.reduceLE, Int.reduceToNat, Int.reduceEq, Int.reduceAdd, Int.reduceSub, Int.reduceMul, Int.reduceNeg, Nat.reduceMul, Nat.reduceSub, Nat.reduceLeDiff, Nat.reduceLT, Int.reduceGT, Int.reduceGE, Int.reduceBEq, Int.reduceBNe, reduceCtorEq, Nat.reduceAdd, Ins.map, Fr.ev, argFr, argE, binEv, intEv, shEv, strEv, unEv, Fr.mark, evRes, tup, lenD, lookupD, loadD, partD, storeD, cellsD, cellOk, setAt, objNe, objSame, eqEv, readEv, lent_bool, lent_int, lent_float, lent_str, lent_agg, lent_tuple, lent_sl, lent_func, lent_iface, lent_nilif, lent_same, buildD, buildRows, rowsOf, elemsOf, normX, unnil, isNil, List.any_cons, List.any_nil, List.map_cons, List.map_nil, Bool.or_false, Bool.false_or, Bool.or_true, Bool.true_or, cond_true, cond_false]
  refine c0n _ _ fun r h' hr hf => ?_
  have v5 := hf i5 (by simp only [AHeap.set_f, n1, n2, ↓reduceIte]; simp)
  have v6 := hf i6 (by simp only [AHeap.set_f, n1, n2, ↓reduceIte]; simp)
  simp only [AHeap.set_f, n1, n2, ↓reduceIte] at v5 v6
  cases l with
  | nil =>
    simp only [encO, List.length_nil, ownD_zero]
    clear hr hf
    simp (config := {maxSteps := 1000000}) only [v5, v6, q12n_eq, tb41n_e, tbLp_e, tbRt_e, tb16n_e, i_callNe, keptAt, Int.natCast_nonneg, Nat.le_refl, Int.le_refl, List.take_succ_cons, List.take_zero, decide_true, decide_false, Bool.and_false, Bool.false_and, zz, zzN, zzF, fltEv, isArithF, ↓reduceIte, Nat.reduceEqDiff, Nat.reduceBEq, Int.reduceLT, Int.reduceLE, Int.reduceToNat, Int.reduceEq, Int.reduceAdd, Int.reduceSub, Int.reduceMul, Int.reduceNeg, Nat.reduceMul, Nat.reduceSub, Nat.reduceLeDiff, Nat.reduceLT, Int.reduceGT, Int.reduceGE, Int.reduceBEq, Int.reduceBNe, reduceCtorEq, Nat.reduceAdd, Ins.map, Fr.ev, argFr, argE, binEv, intEv, shEv, strEv, unEv, Fr.mark, evRes, tup, lenD, lookupD, loadD, partD, storeD, cellsD, cellOk, setAt, objNe, objSame, eqEv, readEv, lent_bool, lent_int, lent_float, lent_str, lent_agg, lent_tuple, lent_sl, lent_func, lent_iface, lent_nilif, lent_same, buildD, buildRows, rowsOf, elemsOf, normX, unnil, isNil, List.any_cons, List.any_nil, List.map_cons, List.map_nil, Bool.or_false, Bool.false_or, Bool.or_true, Bool.true_or, cond_true, cond_false]
    intro i8 k8
    have m1 : ¬ i8 = i5 := fun e => by subst e; rw [v5] at k8; cases k8
    have m2 : ¬ i8 = i6 := fun e => by subst e; rw [v6] at k8; cases k8
    have m1' : ¬ i5 = i8 := fun e => m1 e.symm
    have m2' : ¬ i6 = i8 := fun e => m2 e.symm
    rw [encs_nil] at *
    simp (config := {maxSteps := 1000000}) only [m1, m2, m1', m2', n1, n2, v5, v6, s1n, s3n, hsym, q12n_eq, tb41n_e, tbLp_e, tbRt_e, tb16n_e, i_callNe, keptAt, Int.natCast_nonneg, Nat.le_refl, Int.le_refl, List.take_succ_cons, List.take_zero, decide_true, decide_false, Bool.and_false, Bool.false_and, zz, zzN, zzF, fltEv, isArithF, ↓reduceIte, Nat.reduceEqDiff, Nat.reduceBEq, Int.reduceLT, Int.reduceLE, Int.reduceToNat, Int.reduceEq, Int.reduceAdd, Int.reduceSub, Int.reduceMul, Int.reduceNeg, Nat.reduceMul, Nat.reduceSub, Nat.reduceLeDiff, Nat.reduceLT, Int.reduceGT, Int.reduceGE, Int.reduceBEq, Int.reduceBNe, reduceCtorEq, Nat.reduceAdd, Ins.map, Fr.ev, argFr, argE, binEv, intEv, shEv, strEv, unEv, Fr.mark, evRes, tup, lenD, lookupD, loadD, partD, storeD, cellsD, cellOk, setAt, objNe, objSame, eqEv, readEv, lent_bool, lent_int, lent_float, lent_str, lent_agg, lent_tuple, lent_sl, lent_func, lent_iface, lent_nilif, lent_same, buildD, buildRows, rowsOf, elemsOf, normX, unnil, isNil, List.any_cons, List.any_nil, List.map_cons, List.map_nil, Bool.or_false, Bool.false_or, Bool.or_true, Bool.true_or, cond_true, cond_false]
  | cons z tl =>
    obtain ⟨k9, v9⟩ := hr (by simp [Nd.kids])
    simp only [Nd.kids] at v9
    have p5n : ¬ r = i5 := fun e => by subst e; simp only [AHeap.set_f, n1, n2, ↓reduceIte] at k9; cases k9
    have p6n : ¬ r = i6 := fun e => by subst e; simp only [AHeap.set_f, n1, n2, ↓reduceIte] at k9; cases k9
    have p5n' : ¬ i5 = r := fun e => p5n e.symm
    have p6n' : ¬ i6 = r := fun e => p6n e.symm
    clear hr hf k9
    simp only [encO, ownD_pos (show (z :: tl).length ≠ 0 by simp)]
    simp (config := {maxSteps := 1000000}) only [v5, v6, v9, q12n_eq, tb41n_e, tbLp_e, tbRt_e, tb16n_e, i_callNe, keptAt, Int.natCast_nonneg, Nat.le_refl, Int.le_refl, List.take_succ_cons, List.take_zero, decide_true, decide_false, Bool.and_false, Bool.false_and, zz, zzN, zzF, fltEv, isArithF, ↓reduceIte, Nat.reduceEqDiff, Nat.reduceBEq, Int.reduceLT, Int.reduceLE, Int.reduceToNat, Int.reduceEq, Int.reduceAdd, Int.reduceSub, Int.reduceMul, Int.reduceNeg, Nat.reduceMul, Nat.reduceSub, Nat.reduceLeDiff, Nat.reduceLT, Int.reduceGT, Int.reduceGE, Int.reduceBEq, Int.reduceBNe, reduceCtorEq, Nat.reduceAdd, Ins.map, Fr.ev, argFr, argE, binEv, intEv, shEv, strEv, unEv, Fr.mark, evRes, tup, lenD, lookupD, loadD, partD, storeD, cellsD, cellOk, setAt, objNe, objSame, eqEv, readEv, lent_bool, lent_int, lent_float, lent_str, lent_agg, lent_tuple, lent_sl, lent_func, lent_iface, lent_nilif, lent_same, buildD, buildRows, rowsOf, elemsOf, normX, unnil, isNil, List.any_cons, List.any_nil, List.map_cons, List.map_nil, Bool.or_false, Bool.false_or, Bool.or_true, Bool.true_or, cond_true, cond_false]
    intro i8 k8
    have m1 : ¬ i8 = i5 := fun e => by subst e; rw [v5] at k8; cases k8
    have m2 : ¬ i8 = i6 := fun e => by subst e; rw [v6] at k8; cases k8
    have m3 : ¬ i8 = r := fun e => by subst e; rw [v9] at k8; cases k8
    have m1' : ¬ i5 = i8 := fun e => m1 e.symm
    have m2' : ¬ i6 = i8 := fun e => m2 e.symm
    have m3' : ¬ r = i8 := fun e => m3 e.symm
    have tk : (Nd.encs (z :: tl)).take (tl.length + 1) = Nd.encs (z :: tl) := List.take_of_length_le (by rw [len_encs]; simp)
    have g : (((tl.length + 1 : Nat) : Int) > 0) = True := eq_true (by omega)
    rw [wf_mk, wfs_cons] at wx
    have wz := wx.2.2.2.2.2.1
    obtain ⟨zk, zt, zs, zm, zl⟩ := z
    rw [wf_mk] at wz
    have hz : sameN (.mk k t s n (.mk zk zt zs zm zl :: tl)) (.mk k t s n (.mk zk zt (zs ++ [120]) zm zl :: tl)) = false := hdif _ fun e => by
      simp only [Nd.mk.injEq, List.cons.injEq, true_and, and_true] at e
      have := congrArg List.length e
      simp at this
    have s4n := s2n (.mk k t s n (.mk zk zt (zs ++ [120]) zm zl :: tl))
    rw [hz] at s4n
    simp only [encs_cons, enc_mk] at *
    simp (config := {maxSteps := 1000000}) only [m1, m2, m3, m1', m2', m3', p5n, p6n, p5n', p6n', n1, n2, v5, v6, v9, tk, len_encs, s1n, s3n, hsym, q12n_eq, tb41n_e, tbLp_e, tbRt_e, tb16n_e, i_callNe, keptAt, Int.natCast_nonneg, Nat.le_refl, Int.le_refl, List.take_succ_cons, List.take_zero, decide_true, decide_false, Bool.and_false, Bool.false_and, zz, zzN, zzF, fltEv, isArithF, ↓reduceIte, Nat.reduceEqDiff, Nat.reduceBEq, Int.reduceLT, Int.reduceLE, Int.reduceToNat, Int.reduceEq, Int.reduceAdd, Int.reduceSub, Int.reduceMul, Int.reduceNeg, Nat.reduceMul, Nat.reduceSub, Nat.reduceLeDiff, Nat.reduceLT, Int.reduceGT, Int.reduceGE, Int.reduceBEq, Int.reduceBNe, reduceCtorEq, Nat.reduceAdd, Ins.map, Fr.ev, argFr, argE, binEv, intEv, shEv, strEv, unEv, Fr.mark, evRes, tup, lenD, lookupD, loadD, partD, storeD, cellsD, cellOk, setAt, objNe, objSame, eqEv, readEv, lent_bool, lent_int, lent_float, lent_str, lent_agg, lent_tuple, lent_sl, lent_func, lent_iface, lent_nilif, lent_same, buildD, buildRows, rowsOf, elemsOf, normX, unnil, isNil, List.any_cons, List.any_nil, List.map_cons, List.map_nil, Bool.or_false, Bool.false_or, Bool.or_true, Bool.true_or, cond_true, cond_false]
    intro _
    rw [if_pos (by omega)]
    refine ⟨by omega, by omega, by omega, ?_⟩
    have tk2 : (Nd.encs tl).take tl.length = Nd.encs tl := List.take_of_length_le (by rw [len_encs]; omega)
    simp (config := {maxSteps := 1000000}) only [tk2, s4n, tb41n_e, tbLp_e, tbRt_e, tb16n_e, i_callNe, keptAt, Int.natCast_nonneg, Nat.le_refl, Int.le_refl, List.take_succ_cons, List.take_zero, decide_true, decide_false, Bool.and_false, Bool.false_and, zz, zzN, zzF, fltEv, isArithF, ↓reduceIte, Nat.reduceEqDiff, Nat.reduceBEq, Int.reduceLT, Int.reduceLE, Int.reduceToNat, Int.reduceEq, Int.reduceAdd, Int.reduceSub, Int.reduceMul, Int.reduceNeg, Nat.reduceMul, Nat.reduceSub, Nat.reduceLeDiff, Nat.reduceLT, Int.reduceGT, Int.reduceGE, Int.reduceBEq, Int.reduceBNe, reduceCtorEq, Nat.reduceAdd, Ins.map, Fr.ev, argFr, argE, binEv, intEv, shEv, strEv, unEv, Fr.mark, evRes, tup, lenD, lookupD, loadD, partD, storeD, cellsD, cellOk, setAt, objNe, objSame, eqEv, readEv, lent_bool, lent_int, lent_float, lent_str, lent_agg, lent_tuple, lent_sl, lent_func, lent_iface, lent_nilif, lent_same, buildD, buildRows, rowsOf, elemsOf, normX, unnil, isNil, List.any_cons, List.any_nil, List.map_cons, List.map_nil, Bool.or_false, Bool.false_or, Bool.or_true, Bool.true_or, cond_true, cond_false]
end
end Go.Proofs.YthpgepillaeldaaDoor.Zz
