/- Contracts: the document's numbers of the rounds. -/
import Derived.Test.YtiilnakenlegmaaZK3
namespace Go.Proofs.Ytiilnakenlegmaa.Zz
set_option linter.unusedVariables false
set_option linter.unusedSimpArgs false
set_option maxRecDepth 20000
def p31 : Plan := ⟨⟨[], [], [], [], [], []⟩, []⟩
/-- cupel/cupelref01.power (1 parameters, 0 captured) -/
def s31 : Stm :=
  .seq (.ops [⟨.mov (.c (.int .i64 0)), (some 2), none, true⟩])
  (.seq (.ops [⟨.mov (.c (.int .i64 1)), (some 3), none, true⟩])
  (.seq (.seq (.ops [⟨.mov (.c (.int .i64 0)), (some 4), none, true⟩])
   (.block 0 (.loop (.seq (.seq (.ops [⟨.mov (.t 4), (some 5), none, true⟩,
         ⟨.mov (.t 0), (some 6), none, true⟩,
         ⟨.bin .lss (.t 5) (.t 6), (some 7), none, true⟩])
      (.cond (.t 7)
       (.skip)
       (.exit 0)))
     (.seq (.block 1 (.ops [⟨.mov (.t 3), (some 10), none, true⟩,
         ⟨.mov (.t 3), (some 11), none, true⟩,
         ⟨.bin .add (.t 10) (.t 11), (some 12), none, true⟩,
         ⟨.mov (.t 12), (some 3), none, true⟩]))
     (.ops [⟨.mov (.t 4), (some 8), none, true⟩,
       ⟨.bin .add (.t 8) (.c (.int .i64 1)), (some 9), none, true⟩,
       ⟨.mov (.t 9), (some 4), none, true⟩]))))))
  (.seq (.ops [⟨.mov (.t 3), (some 13), none, true⟩,
     ⟨.mov (.t 13), (some 2), none, true⟩])
  (.ret))))
theorem st31 : stmOf Try.prog 31 p31 = some (s31, [.tmp 2], 14) := by kernel_rfl

def p30 : Plan := ⟨⟨[], [], [], [], [], []⟩, []⟩
/-- cupel/cupelref01.constant (1 parameters, 0 captured) -/
def s30 : Stm :=
  .seq (.ops [⟨.mov (.c (.int .u64 0)), (some 2), none, true⟩])
  (.seq (.ops [⟨.mov (.c (.int .u64 0)), (some 3), none, true⟩,
     ⟨.mov (.c (.int .i64 1)), (some 4), none, true⟩])
  (.seq (.seq (.ops [⟨.mov (.c (.int .i64 0)), (some 5), none, true⟩])
   (.block 0 (.loop (.seq (.seq (.ops [⟨.mov (.t 5), (some 6), none, true⟩,
         ⟨.mov (.t 0), (some 7), none, true⟩,
         ⟨.bin .mul (.c (.int .i64 7)) (.t 7), (some 8), none, true⟩,
         ⟨.bin .add (.t 8) (.c (.int .i64 7)), (some 9), none, true⟩,
         ⟨.bin .lss (.t 6) (.t 9), (some 10), none, true⟩])
      (.cond (.t 10)
       (.skip)
       (.exit 0)))
     (.seq (.block 1 (.seq (.seq (.ops [⟨.mov (.t 5), (some 13), none, true⟩,
           ⟨.mov (.t 0), (some 14), none, true⟩,
           ⟨.bin .mul (.c (.int .i64 7)) (.t 14), (some 15), none, true⟩,
           ⟨.bin .geq (.t 13) (.t 15), (some 16), none, true⟩,
           ⟨.mov (.t 16), (some 17), none, true⟩,
           ⟨.mov (.t 4), (some 18), (some (17, true)), true⟩,
           ⟨.bin .rem (.t 18) (.c (.int .i64 2)), (some 19), (some (17, true)), true⟩,
           ⟨.bin .eql (.t 19) (.c (.int .i64 1)), (some 20), (some (17, true)), true⟩,
           ⟨.pick (.t 17) (.t 20) (.c (.bool false)), (some 21), none, true⟩])
        (.cond (.t 21)
         (.ops [⟨.mov (.t 3), (some 22), none, true⟩,
            ⟨.mov (.t 5), (some 23), none, true⟩,
            ⟨.mov (.t 0), (some 24), none, true⟩,
            ⟨.bin .mul (.c (.int .i64 7)) (.t 24), (some 25), none, true⟩,
            ⟨.bin .sub (.t 23) (.t 25), (some 26), none, true⟩,
            ⟨.qcall (.f 31) [(.t 26)], (some 27), none, false⟩,
            ⟨.bin .sub (.t 27) (.c (.int .i64 1)), (some 28), none, true⟩,
            ⟨.conv (.intInt .u64) (.t 28), (some 29), none, true⟩,
            ⟨.bin .shl (.c (.int .u64 1)) (.t 29), (some 30), none, true⟩,
            ⟨.bin .add (.t 22) (.t 30), (some 31), none, true⟩,
            ⟨.mov (.t 31), (some 3), none, true⟩])
         (.skip)))
       (.seq (.ops [⟨.mov (.t 4), (some 32), none, true⟩,
          ⟨.mov (.t 4), (some 33), none, true⟩,
          ⟨.bin .add (.t 32) (.t 33), (some 34), none, true⟩,
          ⟨.mov (.t 34), (some 4), none, true⟩])
       (.seq (.ops [⟨.mov (.t 4), (some 35), none, true⟩,
          ⟨.bin .gtr (.t 35) (.c (.int .i64 255)), (some 36), none, true⟩])
       (.cond (.t 36)
        (.ops [⟨.mov (.t 4), (some 37), none, true⟩,
           ⟨.bin .xor (.t 37) (.c (.int .i64 369)), (some 38), none, true⟩,
           ⟨.mov (.t 38), (some 4), none, true⟩])
        (.skip))))))
     (.ops [⟨.mov (.t 5), (some 11), none, true⟩,
       ⟨.bin .add (.t 11) (.c (.int .i64 1)), (some 12), none, true⟩,
       ⟨.mov (.t 12), (some 5), none, true⟩]))))))
  (.seq (.ops [⟨.mov (.t 3), (some 39), none, true⟩,
     ⟨.mov (.t 39), (some 2), none, true⟩])
  (.ret))))
theorem st30 : stmOf Try.prog 30 p30 = some (s30, [.tmp 2], 40) := by kernel_rfl

theorem power_c (n : Nat) (hn : n ≤ 62) : PCall Try.prog 31 [.int .i64 n] (.int .i64 ((2 ^ n : Nat) : Int)) := by
  refine PCall.run (Tab.zero_ok _) st31 (by simp) fun E => ?_
  simp only [s31, Int.natCast_nonneg, Nat.le_refl, Int.le_refl, List.take_succ_cons, List.take_zero, decide_true, decide_false, Bool.and_false, Bool.false_and, zz, zzN, zzF, fltEv, isArithF, ↓reduceIte, Nat.reduceEqDiff, Nat.reduceBEq, Int.reduceLT, Int.reduceLE, Int.reduceToNat, Int.reduceEq, Int.reduceAdd, Int.reduceSub, Int.reduceMul, Int.reduceNeg, Nat.reduceMul, Nat.reduceSub, Nat.reduceLeDiff, Nat.reduceLT, Int.reduceGT, Int.reduceBEq, Int.reduceBNe, reduceCtorEq, Nat.reduceAdd, Ins.map, Fr.ev, argFr, argE, binEv, intEv, shEv, strEv, unEv, Fr.mark, evRes, tup, lenD, lookupD, loadD, partD, storeD, cellsD, cellOk, setAt, objNe, objSame, eqEv, readEv, buildD, buildRows, rowsOf, elemsOf]
  refine run_loop (X := Nat) (fun i => [(0, .int .i64 n), (3, .int .i64 ((2 ^ i : Nat) : Int)), (4, .int .i64 i)]) (fun i => .emp) (fun i => n - i) (fun i => i ≤ n) 0 (by simp) ?_ (AHeap.sub_refl _) ?_
  · simp only [Nat.pow_zero, Int.natCast_nonneg, Nat.le_refl, Int.le_refl, List.take_succ_cons, List.take_zero, decide_true, decide_false, Bool.and_false, Bool.false_and, zz, zzN, zzF, fltEv, isArithF, ↓reduceIte, Nat.reduceEqDiff, Nat.reduceBEq, Int.reduceLT, Int.reduceLE, Int.reduceToNat, Int.reduceEq, Int.reduceAdd, Int.reduceSub, Int.reduceMul, Int.reduceNeg, Nat.reduceMul, Nat.reduceSub, Nat.reduceLeDiff, Nat.reduceLT, Int.reduceGT, Int.reduceBEq, Int.reduceBNe, reduceCtorEq, Nat.reduceAdd, Ins.map, Fr.ev, argFr, argE, binEv, intEv, shEv, strEv, unEv, Fr.mark, evRes, tup, lenD, lookupD, loadD, partD, storeD, cellsD, cellOk, setAt, objNe, objSame, eqEv, readEv, buildD, buildRows, rowsOf, elemsOf]
  intro i Q hi hQ
  by_cases c1 : i < n
  · have g1 : ((i : Int) < (n : Int)) = True := by simp; exact c1
    have wi : IntKind.i64.wrap ((i : Int) + 1) = ((i + 1 : Nat) : Int) := wrap_succ (by omega)
    have hb : 2 ^ i ≤ 2 ^ 61 := Nat.pow_le_pow_right (by omega) (by omega)
    have hb' : 2 ^ i ≤ 2305843009213693952 := hb
    have e : 2 ^ (i + 1) = 2 ^ i + 2 ^ i := by rw [Nat.pow_succ]; omega
    generalize 2 ^ i = p at *
    have wp : IntKind.i64.wrap ((p : Int) + (p : Int)) = ((2 ^ (i + 1) : Nat) : Int) := by
      rw [e, wrap_i64 (by omega) (by omega)]; omega
    simp only [g1, wi, wp, Int.natCast_nonneg, Nat.le_refl, Int.le_refl, List.take_succ_cons, List.take_zero, decide_true, decide_false, Bool.and_false, Bool.false_and, zz, zzN, zzF, fltEv, isArithF, ↓reduceIte, Nat.reduceEqDiff, Nat.reduceBEq, Int.reduceLT, Int.reduceLE, Int.reduceToNat, Int.reduceEq, Int.reduceAdd, Int.reduceSub, Int.reduceMul, Int.reduceNeg, Nat.reduceMul, Nat.reduceSub, Nat.reduceLeDiff, Nat.reduceLT, Int.reduceGT, Int.reduceBEq, Int.reduceBNe, reduceCtorEq, Nat.reduceAdd, Ins.map, Fr.ev, argFr, argE, binEv, intEv, shEv, strEv, unEv, Fr.mark, evRes, tup, lenD, lookupD, loadD, partD, storeD, cellsD, cellOk, setAt, objNe, objSame, eqEv, readEv, buildD, buildRows, rowsOf, elemsOf]
    exact hQ (i + 1) _ _ (by omega) (by simp only [Int.natCast_nonneg, Nat.le_refl, Int.le_refl, List.take_succ_cons, List.take_zero, decide_true, decide_false, Bool.and_false, Bool.false_and, zz, zzN, zzF, fltEv, isArithF, ↓reduceIte, Nat.reduceEqDiff, Nat.reduceBEq, Int.reduceLT, Int.reduceLE, Int.reduceToNat, Int.reduceEq, Int.reduceAdd, Int.reduceSub, Int.reduceMul, Int.reduceNeg, Nat.reduceMul, Nat.reduceSub, Nat.reduceLeDiff, Nat.reduceLT, Int.reduceGT, Int.reduceBEq, Int.reduceBNe, reduceCtorEq, Nat.reduceAdd, Ins.map, Fr.ev, argFr, argE, binEv, intEv, shEv, strEv, unEv, Fr.mark, evRes, tup, lenD, lookupD, loadD, partD, storeD, cellsD, cellOk, setAt, objNe, objSame, eqEv, readEv, buildD, buildRows, rowsOf, elemsOf]) (AHeap.sub_refl _) (by omega)
  · have hc : i = n := by omega
    subst hc
    have g1 : ((i : Int) < (i : Int)) = False := by simp
    simp only [g1, Int.natCast_nonneg, Nat.le_refl, Int.le_refl, List.take_succ_cons, List.take_zero, decide_true, decide_false, Bool.and_false, Bool.false_and, zz, zzN, zzF, fltEv, isArithF, ↓reduceIte, Nat.reduceEqDiff, Nat.reduceBEq, Int.reduceLT, Int.reduceLE, Int.reduceToNat, Int.reduceEq, Int.reduceAdd, Int.reduceSub, Int.reduceMul, Int.reduceNeg, Nat.reduceMul, Nat.reduceSub, Nat.reduceLeDiff, Nat.reduceLT, Int.reduceGT, Int.reduceBEq, Int.reduceBNe, reduceCtorEq, Nat.reduceAdd, Ins.map, Fr.ev, argFr, argE, binEv, intEv, shEv, strEv, unEv, Fr.mark, evRes, tup, lenD, lookupD, loadD, partD, storeD, cellsD, cellOk, setAt, objNe, objSame, eqEv, readEv, buildD, buildRows, rowsOf, elemsOf]
def q31 : List D → Option D
  | [.int .i64 n] => if (0 ≤ n ∧ n ≤ 62) then some (.int .i64 ((2 ^ n.toNat : Nat) : Int)) else none
  | _ => none
theorem q31_ok (args : List D) (d : D) (h : q31 args = some d) : PCall Try.prog 31 args d := by
  unfold q31 at h
  split at h
  · split at h
    · cases h; exact (by rename_i hc; obtain ⟨m, rfl⟩ := Int.eq_ofNat_of_zero_le hc.1; exact power_c m (by omega))
    · cases h
  · cases h

theorem q31_eq {n : Nat} (h : n ≤ 62) : q31 [.int .i64 n] = some (.int .i64 ((2 ^ n : Nat) : Int)) := by
  simp only [q31, Int.toNat_natCast]
  rw [if_pos (by omega)]
def tb31 : Tab := Tab.zero.addQ 31 q31
theorem tb31_q (g : FuncId) (args : List D) : tb31.q g args = if g = 31 then q31 args else Tab.zero.q g args := rfl
theorem tb31_a : tb31.a = Tab.zero.a := rfl
theorem tb31_c : tb31.c = Tab.zero.c := rfl
theorem tb31_ok : tb31.ok Try.prog := Tab.addQ_ok (Tab.zero_ok _) q31_ok
theorem tb31_e : type_of% (And.intro @tb31_q (And.intro @tb31_a @tb31_c)) := (And.intro @tb31_q (And.intro @tb31_a @tb31_c))

theorem xor_i64 {a b : Nat} (ha : a < 512) (hb : b < 512) : IntKind.i64.wrap ((BitVec.ofInt IntKind.i64.bits (a : Int) ^^^ BitVec.ofInt IntKind.i64.bits (b : Int)).toNat : Int) = ((a ^^^ b : Nat) : Int) := by
  have h1 : (BitVec.ofInt IntKind.i64.bits (a : Int)).toNat = a := by simp [IntKind.bits]; omega
  have h2 : (BitVec.ofInt IntKind.i64.bits (b : Int)).toNat = b := by simp [IntKind.bits]; omega
  rw [BitVec.toNat_xor, h1, h2]
  have := Nat.xor_lt_two_pow (n := 9) (x := a) (y := b) (by omega) (by omega)
  exact wrap_i64 (by omega) (by omega)
theorem w_add (a b : W64) : IntKind.u64.wrap (ofW a + ofW b) = ofW (a + b) := by
  rw [wrap_u64_mod]
  unfold ofW
  rw [BitVec.toNat_add]
  omega
/-- The row of bits: one step, and all. -/
def lfS (s : Nat) : Nat := if 255 < s + s then (s + s) ^^^ 369 else s + s
def lf : Nat → Nat
  | 0 => 1
  | i + 1 => lfS (lf i)
def csS (r i : Nat) (x : W64) : W64 := if 7 * r ≤ i ∧ lf i % 2 = 1 then x + ((1 : W64) <<< (2 ^ (i - 7 * r) - 1)) else x
def cs (r : Nat) : Nat → W64
  | 0 => 0
  | i + 1 => csS r i (cs r i)
theorem lfS_lt : ∀ s : Fin 256, lfS s.1 < 256 := by decide
theorem lf_lt : ∀ i, lf i < 256
  | 0 => by decide
  | i + 1 => lfS_lt ⟨lf i, lf_lt i⟩
theorem pow_small : ∀ k : Fin 7, 2 ^ k.1 - 1 < 64 ∧ 1 ≤ 2 ^ k.1 := by decide
set_option maxHeartbeats 1000000 in
theorem constant_c (r : Nat) (hr : r < 24) : PCall Try.prog 30 [.int .i64 r] (.int .u64 (ofW (cs r (7 * r + 7)))) := by
  refine PCall.run tb31_ok st30 (by simp) fun E => ?_
  have w7 : IntKind.i64.wrap (7 * (r : Int)) = ((7 * r : Nat) : Int) := by rw [wrap_i64 (by omega) (by omega)]; omega
  have w77 : IntKind.i64.wrap (((7 * r : Nat) : Int) + 7) = ((7 * r + 7 : Nat) : Int) := by rw [wrap_i64 (by omega) (by omega)]; omega
  simp only [s30, w7, w77, tb31_e, Int.natCast_nonneg, Nat.le_refl, Int.le_refl, List.take_succ_cons, List.take_zero, decide_true, decide_false, Bool.and_false, Bool.false_and, zz, zzN, zzF, fltEv, isArithF, ↓reduceIte, Nat.reduceEqDiff, Nat.reduceBEq, Int.reduceLT, Int.reduceLE, Int.reduceToNat, Int.reduceEq, Int.reduceAdd, Int.reduceSub, Int.reduceMul, Int.reduceNeg, Nat.reduceMul, Nat.reduceSub, Nat.reduceLeDiff, Nat.reduceLT, Int.reduceGT, Int.reduceBEq, Int.reduceBNe, reduceCtorEq, Nat.reduceAdd, Ins.map, Fr.ev, argFr, argE, binEv, intEv, shEv, strEv, unEv, Fr.mark, evRes, tup, lenD, lookupD, loadD, partD, storeD, cellsD, cellOk, setAt, objNe, objSame, eqEv, readEv, buildD, buildRows, rowsOf, elemsOf]
  refine run_loop (X := Nat) (fun i => [(0, .int .i64 r), (3, .int .u64 (ofW (cs r i))), (4, .int .i64 (lf i : Nat)), (5, .int .i64 i)]) (fun i => .emp) (fun i => 7 * r + 7 - i) (fun i => i ≤ 7 * r + 7) 0 (by simp) ?_ (AHeap.sub_refl _) ?_
  · have e1 : ofW (cs r 0) = 0 := rfl
    have e2 : ((lf 0 : Nat) : Int) = 1 := rfl
    simp only [e1, e2, Int.natCast_nonneg, Nat.le_refl, Int.le_refl, List.take_succ_cons, List.take_zero, decide_true, decide_false, Bool.and_false, Bool.false_and, zz, zzN, zzF, fltEv, isArithF, ↓reduceIte, Nat.reduceEqDiff, Nat.reduceBEq, Int.reduceLT, Int.reduceLE, Int.reduceToNat, Int.reduceEq, Int.reduceAdd, Int.reduceSub, Int.reduceMul, Int.reduceNeg, Nat.reduceMul, Nat.reduceSub, Nat.reduceLeDiff, Nat.reduceLT, Int.reduceGT, Int.reduceBEq, Int.reduceBNe, reduceCtorEq, Nat.reduceAdd, Ins.map, Fr.ev, argFr, argE, binEv, intEv, shEv, strEv, unEv, Fr.mark, evRes, tup, lenD, lookupD, loadD, partD, storeD, cellsD, cellOk, setAt, objNe, objSame, eqEv, readEv, buildD, buildRows, rowsOf, elemsOf]
  intro i Q hi hQ
  by_cases c1 : i < 7 * r + 7
  · have g1 : ((i : Int) < ((7 * r + 7 : Nat) : Int)) = True := by simp; omega
    have wi : IntKind.i64.wrap ((i : Int) + 1) = ((i + 1 : Nat) : Int) := wrap_succ (by omega)
    have l := lf_lt i
    have f1 : lf (i + 1) = lfS (lf i) := rfl
    have f2 : cs r (i + 1) = csS r i (cs r i) := rfl
    unfold lfS at f1
    unfold csS at f2
    generalize lf i = s at *
    generalize cs r i = x at *
    have m2 : Int.tmod (s : Int) 2 = ((s % 2 : Nat) : Int) := tmod_nat s 2
    have ws : IntKind.i64.wrap ((s : Int) + (s : Int)) = ((s + s : Nat) : Int) := by rw [wrap_i64 (by omega) (by omega)]; omega
    have wx : IntKind.i64.wrap ((BitVec.ofInt IntKind.i64.bits ((s + s : Nat) : Int) ^^^ BitVec.ofInt IntKind.i64.bits 369).toNat : Int) = (((s + s) ^^^ 369 : Nat) : Int) := xor_i64 (a := s + s) (b := 369) (by omega) (by omega)
    have wd : 7 * r ≤ i → IntKind.i64.wrap ((i : Int) - ((7 * r : Nat) : Int)) = ((i - 7 * r : Nat) : Int) := fun _ => by rw [wrap_i64 (by omega) (by omega)]; omega
    by_cases c2 : 7 * r ≤ i
    · have g2 : ((i : Int) ≥ ((7 * r : Nat) : Int)) = True := by simp; omega
      have hp := pow_small ⟨i - 7 * r, by omega⟩
      simp only at hp
      have q1 := q31_eq (n := i - 7 * r) (by omega)
      have wp : IntKind.i64.wrap (((2 ^ (i - 7 * r) : Nat) : Int) - 1) = ((2 ^ (i - 7 * r) - 1 : Nat) : Int) := by
        generalize 2 ^ (i - 7 * r) = p at *
        rw [wrap_i64 (by omega) (by omega)]; omega
      have wu : IntKind.u64.wrap ((2 ^ (i - 7 * r) - 1 : Nat) : Int) = ((2 ^ (i - 7 * r) - 1 : Nat) : Int) := by
        generalize 2 ^ (i - 7 * r) = p at *
        exact wrap_u64 (by omega) (by omega)
      have g5 : (((2 ^ (i - 7 * r) - 1 : Nat) : Int) < 0) = False := by
        generalize 2 ^ (i - 7 * r) - 1 = p at *
        simp
      have wsh := w_shl 1 (2 ^ (i - 7 * r) - 1) (by omega)
      have o1 : ofW 1 = 1 := rfl
      rw [o1] at wsh
      by_cases hb : s % 2 = 1
      · have g4 : (((s % 2 : Nat) : Int) == 1) = true := by simp; omega
        rw [if_pos ⟨c2, hb⟩] at f2
        by_cases c3 : 255 < s + s
        · have g3 : (((s + s : Nat) : Int) > 255) = True := by simp; omega
          rw [if_pos c3] at f1
          simp only [g1, g2, g4, wd c2, q1, wp, wu, wsh, g5, g3, wi, w7, w77, m2, ws, wx, w_add, tb31_e, Int.natCast_nonneg, Nat.le_refl, Int.le_refl, List.take_succ_cons, List.take_zero, decide_true, decide_false, Bool.and_false, Bool.false_and, zz, zzN, zzF, fltEv, isArithF, ↓reduceIte, Nat.reduceEqDiff, Nat.reduceBEq, Int.reduceLT, Int.reduceLE, Int.reduceToNat, Int.reduceEq, Int.reduceAdd, Int.reduceSub, Int.reduceMul, Int.reduceNeg, Nat.reduceMul, Nat.reduceSub, Nat.reduceLeDiff, Nat.reduceLT, Int.reduceGT, Int.reduceBEq, Int.reduceBNe, reduceCtorEq, Nat.reduceAdd, Ins.map, Fr.ev, argFr, argE, binEv, intEv, shEv, strEv, unEv, Fr.mark, evRes, tup, lenD, lookupD, loadD, partD, storeD, cellsD, cellOk, setAt, objNe, objSame, eqEv, readEv, buildD, buildRows, rowsOf, elemsOf]
          exact hQ (i + 1) _ _ (by omega) (by simp only [f1, f2, Int.natCast_nonneg, Nat.le_refl, Int.le_refl, List.take_succ_cons, List.take_zero, decide_true, decide_false, Bool.and_false, Bool.false_and, zz, zzN, zzF, fltEv, isArithF, ↓reduceIte, Nat.reduceEqDiff, Nat.reduceBEq, Int.reduceLT, Int.reduceLE, Int.reduceToNat, Int.reduceEq, Int.reduceAdd, Int.reduceSub, Int.reduceMul, Int.reduceNeg, Nat.reduceMul, Nat.reduceSub, Nat.reduceLeDiff, Nat.reduceLT, Int.reduceGT, Int.reduceBEq, Int.reduceBNe, reduceCtorEq, Nat.reduceAdd, Ins.map, Fr.ev, argFr, argE, binEv, intEv, shEv, strEv, unEv, Fr.mark, evRes, tup, lenD, lookupD, loadD, partD, storeD, cellsD, cellOk, setAt, objNe, objSame, eqEv, readEv, buildD, buildRows, rowsOf, elemsOf]) (AHeap.sub_refl _) (by omega)
        · have g3 : (((s + s : Nat) : Int) > 255) = False := by simp; omega
          rw [if_neg c3] at f1
          simp only [g1, g2, g4, wd c2, q1, wp, wu, wsh, g5, g3, wi, w7, w77, m2, ws, wx, w_add, tb31_e, Int.natCast_nonneg, Nat.le_refl, Int.le_refl, List.take_succ_cons, List.take_zero, decide_true, decide_false, Bool.and_false, Bool.false_and, zz, zzN, zzF, fltEv, isArithF, ↓reduceIte, Nat.reduceEqDiff, Nat.reduceBEq, Int.reduceLT, Int.reduceLE, Int.reduceToNat, Int.reduceEq, Int.reduceAdd, Int.reduceSub, Int.reduceMul, Int.reduceNeg, Nat.reduceMul, Nat.reduceSub, Nat.reduceLeDiff, Nat.reduceLT, Int.reduceGT, Int.reduceBEq, Int.reduceBNe, reduceCtorEq, Nat.reduceAdd, Ins.map, Fr.ev, argFr, argE, binEv, intEv, shEv, strEv, unEv, Fr.mark, evRes, tup, lenD, lookupD, loadD, partD, storeD, cellsD, cellOk, setAt, objNe, objSame, eqEv, readEv, buildD, buildRows, rowsOf, elemsOf]
          exact hQ (i + 1) _ _ (by omega) (by simp only [f1, f2, Int.natCast_nonneg, Nat.le_refl, Int.le_refl, List.take_succ_cons, List.take_zero, decide_true, decide_false, Bool.and_false, Bool.false_and, zz, zzN, zzF, fltEv, isArithF, ↓reduceIte, Nat.reduceEqDiff, Nat.reduceBEq, Int.reduceLT, Int.reduceLE, Int.reduceToNat, Int.reduceEq, Int.reduceAdd, Int.reduceSub, Int.reduceMul, Int.reduceNeg, Nat.reduceMul, Nat.reduceSub, Nat.reduceLeDiff, Nat.reduceLT, Int.reduceGT, Int.reduceBEq, Int.reduceBNe, reduceCtorEq, Nat.reduceAdd, Ins.map, Fr.ev, argFr, argE, binEv, intEv, shEv, strEv, unEv, Fr.mark, evRes, tup, lenD, lookupD, loadD, partD, storeD, cellsD, cellOk, setAt, objNe, objSame, eqEv, readEv, buildD, buildRows, rowsOf, elemsOf]) (AHeap.sub_refl _) (by omega)
      · have g4 : (((s % 2 : Nat) : Int) == 1) = false := by simp; omega
        rw [if_neg (fun k => hb k.2)] at f2
        by_cases c3 : 255 < s + s
        · have g3 : (((s + s : Nat) : Int) > 255) = True := by simp; omega
          rw [if_pos c3] at f1
          simp only [g1, g2, g4, g3, wi, w7, w77, m2, ws, wx, w_add, tb31_e, Int.natCast_nonneg, Nat.le_refl, Int.le_refl, List.take_succ_cons, List.take_zero, decide_true, decide_false, Bool.and_false, Bool.false_and, zz, zzN, zzF, fltEv, isArithF, ↓reduceIte, Nat.reduceEqDiff, Nat.reduceBEq, Int.reduceLT, Int.reduceLE, Int.reduceToNat, Int.reduceEq, Int.reduceAdd, Int.reduceSub, Int.reduceMul, Int.reduceNeg, Nat.reduceMul, Nat.reduceSub, Nat.reduceLeDiff, Nat.reduceLT, Int.reduceGT, Int.reduceBEq, Int.reduceBNe, reduceCtorEq, Nat.reduceAdd, Ins.map, Fr.ev, argFr, argE, binEv, intEv, shEv, strEv, unEv, Fr.mark, evRes, tup, lenD, lookupD, loadD, partD, storeD, cellsD, cellOk, setAt, objNe, objSame, eqEv, readEv, buildD, buildRows, rowsOf, elemsOf]
          exact hQ (i + 1) _ _ (by omega) (by simp only [f1, f2, Int.natCast_nonneg, Nat.le_refl, Int.le_refl, List.take_succ_cons, List.take_zero, decide_true, decide_false, Bool.and_false, Bool.false_and, zz, zzN, zzF, fltEv, isArithF, ↓reduceIte, Nat.reduceEqDiff, Nat.reduceBEq, Int.reduceLT, Int.reduceLE, Int.reduceToNat, Int.reduceEq, Int.reduceAdd, Int.reduceSub, Int.reduceMul, Int.reduceNeg, Nat.reduceMul, Nat.reduceSub, Nat.reduceLeDiff, Nat.reduceLT, Int.reduceGT, Int.reduceBEq, Int.reduceBNe, reduceCtorEq, Nat.reduceAdd, Ins.map, Fr.ev, argFr, argE, binEv, intEv, shEv, strEv, unEv, Fr.mark, evRes, tup, lenD, lookupD, loadD, partD, storeD, cellsD, cellOk, setAt, objNe, objSame, eqEv, readEv, buildD, buildRows, rowsOf, elemsOf]) (AHeap.sub_refl _) (by omega)
        · have g3 : (((s + s : Nat) : Int) > 255) = False := by simp; omega
          rw [if_neg c3] at f1
          simp only [g1, g2, g4, g3, wi, w7, w77, m2, ws, wx, w_add, tb31_e, Int.natCast_nonneg, Nat.le_refl, Int.le_refl, List.take_succ_cons, List.take_zero, decide_true, decide_false, Bool.and_false, Bool.false_and, zz, zzN, zzF, fltEv, isArithF, ↓reduceIte, Nat.reduceEqDiff, Nat.reduceBEq, Int.reduceLT, Int.reduceLE, Int.reduceToNat, Int.reduceEq, Int.reduceAdd, Int.reduceSub, Int.reduceMul, Int.reduceNeg, Nat.reduceMul, Nat.reduceSub, Nat.reduceLeDiff, Nat.reduceLT, Int.reduceGT, Int.reduceBEq, Int.reduceBNe, reduceCtorEq, Nat.reduceAdd, Ins.map, Fr.ev, argFr, argE, binEv, intEv, shEv, strEv, unEv, Fr.mark, evRes, tup, lenD, lookupD, loadD, partD, storeD, cellsD, cellOk, setAt, objNe, objSame, eqEv, readEv, buildD, buildRows, rowsOf, elemsOf]
          exact hQ (i + 1) _ _ (by omega) (by simp only [f1, f2, Int.natCast_nonneg, Nat.le_refl, Int.le_refl, List.take_succ_cons, List.take_zero, decide_true, decide_false, Bool.and_false, Bool.false_and, zz, zzN, zzF, fltEv, isArithF, ↓reduceIte, Nat.reduceEqDiff, Nat.reduceBEq, Int.reduceLT, Int.reduceLE, Int.reduceToNat, Int.reduceEq, Int.reduceAdd, Int.reduceSub, Int.reduceMul, Int.reduceNeg, Nat.reduceMul, Nat.reduceSub, Nat.reduceLeDiff, Nat.reduceLT, Int.reduceGT, Int.reduceBEq, Int.reduceBNe, reduceCtorEq, Nat.reduceAdd, Ins.map, Fr.ev, argFr, argE, binEv, intEv, shEv, strEv, unEv, Fr.mark, evRes, tup, lenD, lookupD, loadD, partD, storeD, cellsD, cellOk, setAt, objNe, objSame, eqEv, readEv, buildD, buildRows, rowsOf, elemsOf]) (AHeap.sub_refl _) (by omega)
    · have g2 : ((i : Int) ≥ ((7 * r : Nat) : Int)) = False := by simp; omega
      rw [if_neg (fun k => c2 k.1)] at f2
      by_cases c3 : 255 < s + s
      · have g3 : (((s + s : Nat) : Int) > 255) = True := by simp; omega
        rw [if_pos c3] at f1
        simp only [g1, g2, g3, wi, w7, w77, m2, ws, wx, w_add, tb31_e, Int.natCast_nonneg, Nat.le_refl, Int.le_refl, List.take_succ_cons, List.take_zero, decide_true, decide_false, Bool.and_false, Bool.false_and, zz, zzN, zzF, fltEv, isArithF, ↓reduceIte, Nat.reduceEqDiff, Nat.reduceBEq, Int.reduceLT, Int.reduceLE, Int.reduceToNat, Int.reduceEq, Int.reduceAdd, Int.reduceSub, Int.reduceMul, Int.reduceNeg, Nat.reduceMul, Nat.reduceSub, Nat.reduceLeDiff, Nat.reduceLT, Int.reduceGT, Int.reduceBEq, Int.reduceBNe, reduceCtorEq, Nat.reduceAdd, Ins.map, Fr.ev, argFr, argE, binEv, intEv, shEv, strEv, unEv, Fr.mark, evRes, tup, lenD, lookupD, loadD, partD, storeD, cellsD, cellOk, setAt, objNe, objSame, eqEv, readEv, buildD, buildRows, rowsOf, elemsOf]
        exact hQ (i + 1) _ _ (by omega) (by simp only [f1, f2, Int.natCast_nonneg, Nat.le_refl, Int.le_refl, List.take_succ_cons, List.take_zero, decide_true, decide_false, Bool.and_false, Bool.false_and, zz, zzN, zzF, fltEv, isArithF, ↓reduceIte, Nat.reduceEqDiff, Nat.reduceBEq, Int.reduceLT, Int.reduceLE, Int.reduceToNat, Int.reduceEq, Int.reduceAdd, Int.reduceSub, Int.reduceMul, Int.reduceNeg, Nat.reduceMul, Nat.reduceSub, Nat.reduceLeDiff, Nat.reduceLT, Int.reduceGT, Int.reduceBEq, Int.reduceBNe, reduceCtorEq, Nat.reduceAdd, Ins.map, Fr.ev, argFr, argE, binEv, intEv, shEv, strEv, unEv, Fr.mark, evRes, tup, lenD, lookupD, loadD, partD, storeD, cellsD, cellOk, setAt, objNe, objSame, eqEv, readEv, buildD, buildRows, rowsOf, elemsOf]) (AHeap.sub_refl _) (by omega)
      · have g3 : (((s + s : Nat) : Int) > 255) = False := by simp; omega
        rw [if_neg c3] at f1
        simp only [g1, g2, g3, wi, w7, w77, m2, ws, wx, w_add, tb31_e, Int.natCast_nonneg, Nat.le_refl, Int.le_refl, List.take_succ_cons, List.take_zero, decide_true, decide_false, Bool.and_false, Bool.false_and, zz, zzN, zzF, fltEv, isArithF, ↓reduceIte, Nat.reduceEqDiff, Nat.reduceBEq, Int.reduceLT, Int.reduceLE, Int.reduceToNat, Int.reduceEq, Int.reduceAdd, Int.reduceSub, Int.reduceMul, Int.reduceNeg, Nat.reduceMul, Nat.reduceSub, Nat.reduceLeDiff, Nat.reduceLT, Int.reduceGT, Int.reduceBEq, Int.reduceBNe, reduceCtorEq, Nat.reduceAdd, Ins.map, Fr.ev, argFr, argE, binEv, intEv, shEv, strEv, unEv, Fr.mark, evRes, tup, lenD, lookupD, loadD, partD, storeD, cellsD, cellOk, setAt, objNe, objSame, eqEv, readEv, buildD, buildRows, rowsOf, elemsOf]
        exact hQ (i + 1) _ _ (by omega) (by simp only [f1, f2, Int.natCast_nonneg, Nat.le_refl, Int.le_refl, List.take_succ_cons, List.take_zero, decide_true, decide_false, Bool.and_false, Bool.false_and, zz, zzN, zzF, fltEv, isArithF, ↓reduceIte, Nat.reduceEqDiff, Nat.reduceBEq, Int.reduceLT, Int.reduceLE, Int.reduceToNat, Int.reduceEq, Int.reduceAdd, Int.reduceSub, Int.reduceMul, Int.reduceNeg, Nat.reduceMul, Nat.reduceSub, Nat.reduceLeDiff, Nat.reduceLT, Int.reduceGT, Int.reduceBEq, Int.reduceBNe, reduceCtorEq, Nat.reduceAdd, Ins.map, Fr.ev, argFr, argE, binEv, intEv, shEv, strEv, unEv, Fr.mark, evRes, tup, lenD, lookupD, loadD, partD, storeD, cellsD, cellOk, setAt, objNe, objSame, eqEv, readEv, buildD, buildRows, rowsOf, elemsOf]) (AHeap.sub_refl _) (by omega)
  · have hc : i = 7 * r + 7 := by omega
    subst hc
    have g1 : (((7 * r + 7 : Nat) : Int) < ((7 * r + 7 : Nat) : Int)) = False := by simp
    simp only [g1, w7, w77, tb31_e, Int.natCast_nonneg, Nat.le_refl, Int.le_refl, List.take_succ_cons, List.take_zero, decide_true, decide_false, Bool.and_false, Bool.false_and, zz, zzN, zzF, fltEv, isArithF, ↓reduceIte, Nat.reduceEqDiff, Nat.reduceBEq, Int.reduceLT, Int.reduceLE, Int.reduceToNat, Int.reduceEq, Int.reduceAdd, Int.reduceSub, Int.reduceMul, Int.reduceNeg, Nat.reduceMul, Nat.reduceSub, Nat.reduceLeDiff, Nat.reduceLT, Int.reduceGT, Int.reduceBEq, Int.reduceBNe, reduceCtorEq, Nat.reduceAdd, Ins.map, Fr.ev, argFr, argE, binEv, intEv, shEv, strEv, unEv, Fr.mark, evRes, tup, lenD, lookupD, loadD, partD, storeD, cellsD, cellOk, setAt, objNe, objSame, eqEv, readEv, buildD, buildRows, rowsOf, elemsOf]
theorem cs_rc : ∀ r : Fin 24, cs r.1 (7 * r.1 + 7) = rcW.getD r.1 0 := by decide +kernel
theorem const_c (r : Nat) (hr : r < 24) : PCall Try.prog 30 [.int .i64 r] (.int .u64 (ofW (rcW.getD r 0))) := by
  have := constant_c r hr
  have e := cs_rc ⟨r, hr⟩
  simp only at e
  rwa [e] at this
def q30 : List D → Option D
  | [.int .i64 n] => if (0 ≤ n ∧ n < 24) then some (.int .u64 (ofW (rcW.getD n.toNat 0))) else none
  | _ => none
theorem q30_ok (args : List D) (d : D) (h : q30 args = some d) : PCall Try.prog 30 args d := by
  unfold q30 at h
  split at h
  · split at h
    · cases h; exact (by rename_i hc; obtain ⟨m, rfl⟩ := Int.eq_ofNat_of_zero_le hc.1; exact const_c m (by omega))
    · cases h
  · cases h

theorem q30_eq {n : Nat} (h : n < 24) : q30 [.int .i64 n] = some (.int .u64 (ofW (rcW.getD n 0))) := by
  simp only [q30, Int.toNat_natCast]
  rw [if_pos (by omega)]
def tb30 : Tab := tb31.addQ 30 q30
theorem tb30_q (g : FuncId) (args : List D) : tb30.q g args = if g = 30 then q30 args else tb31.q g args := rfl
theorem tb30_a : tb30.a = tb31.a := rfl
theorem tb30_c : tb30.c = tb31.c := rfl
theorem tb30_ok : tb30.ok Try.prog := Tab.addQ_ok tb31_ok q30_ok
theorem tb30_e : type_of% (And.intro (And.intro @tb30_q (And.intro @tb30_a @tb30_c)) @tb31_e) := (And.intro (And.intro @tb30_q (And.intro @tb30_a @tb30_c)) @tb31_e)

def q29 : List D → Option D
  | [.int .u64 x, .int .i64 n] => if 0 ≤ n ∧ n < 64 ∧ x = ofW (BitVec.ofInt 64 x) then some (.int .u64 (ofW (rotL (BitVec.ofInt 64 x) n.toNat))) else none
  | _ => none
theorem q29_ok (args : List D) (d : D) (h : q29 args = some d) : PCall Try.prog 29 args d := by
  unfold q29 at h
  split at h
  · rename_i x n
    split at h
    · rename_i hc
      cases h
      obtain ⟨m, rfl⟩ := Int.eq_ofNat_of_zero_le hc.1
      have := turned_c (BitVec.ofInt 64 x) m (by omega)
      rw [← hc.2.2] at this
      exact this
    · cases h
  · cases h
theorem q29_eq {a : W64} {n : Nat} (h : n < 64) : q29 [.int .u64 (ofW a), .int .i64 n] = some (.int .u64 (ofW (rotL a n))) := by
  simp only [q29, ofInt_ofW', Int.toNat_natCast]
  rw [if_pos (by simp; omega)]
def tb29 : Tab := tb30.addQ 29 q29
theorem tb29_q (g : FuncId) (args : List D) : tb29.q g args = if g = 29 then q29 args else tb30.q g args := rfl
theorem tb29_a : tb29.a = tb30.a := rfl
theorem tb29_c : tb29.c = tb30.c := rfl
theorem tb29_ok : tb29.ok Try.prog := Tab.addQ_ok tb30_ok q29_ok
theorem tb29_e : type_of% (And.intro (And.intro @tb29_q (And.intro @tb29_a @tb29_c)) @tb30_e) := (And.intro (And.intro @tb29_q (And.intro @tb29_a @tb29_c)) @tb30_e)

end Go.Proofs.Ytiilnakenlegmaa.Zz
