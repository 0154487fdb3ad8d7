/- The law of conversions: whole numbers there and back. -/
import Derived.Test.YtaimobfakcompaaZV6
namespace Go.Proofs.Ytaimobfakcompaa.Zz
set_option linter.unusedVariables false
set_option linter.unusedSimpArgs false
set_option maxRecDepth 20000
def sgV (s : Bool) (V : Nat) : Int := if s then -(V : Int) else V
theorem cut_zero (s : Bool) (V k : Nat) (hV : 0 < V) : Ieee.Toward.zero.cut s (V * 2 ^ k) k = V := by
  have p3 : 0 < 2 ^ k := Nat.two_pow_pos _
  have hm : V * 2 ^ k ≠ 0 := Nat.ne_of_gt (Nat.mul_pos hV p3)
  have hk : k ≤ (V * 2 ^ k).log2 := (Nat.le_log2 hm).2 (Nat.le_mul_of_pos_left _ hV)
  unfold Ieee.Toward.cut
  have g : (1 : Nat) <<< min k ((V * 2 ^ k).log2 + 2) = 2 ^ k := by rw [Nat.shiftLeft_eq, Nat.min_eq_left (by omega), Nat.one_mul]
  simp only [g, Nat.mul_div_cancel _ p3, Bool.toNat_false, Nat.add_zero]
theorem cut_zero0 (s : Bool) (V : Nat) : Ieee.Toward.zero.cut s V 0 = V := by
  simp [Ieee.Toward.cut]
theorem integral_near {s : Bool} {mag V m : Nat} {p : Int} (h : Near s mag V m p) : (Ieee.Datum.number s m p).integral .zero = .number s V 0 := by
  simp only [Ieee.Datum.integral]
  rcases h.val with ⟨h1, h2⟩ | ⟨h1, h2⟩
  · have e : p.toNat = 0 := by omega
    rw [e, Nat.shiftLeft_zero, h2, cut_zero _ _ _ h.pos]
  · have e : (-p).toNat = 0 := by omega
    rw [e, Nat.shiftLeft_eq, ← h2, cut_zero0]
theorem toInt_near {s : Bool} {mag V m : Nat} {p : Int} (h : Near s mag V m p) : (Ieee.Datum.number s m p).toInt .zero = some (sgV s V) := by
  unfold Ieee.Datum.toInt
  rw [integral_near h]
  simp [Ieee.signed, sgV]
theorem cmp_mul (X Y c : Int) (hc : 0 < c) : compare (X * c) (Y * c) = compare X Y := by
  simp only [compare, compareOfLessAndEq]
  have h1 : (X * c < Y * c) = (X < Y) := by
    apply propext
    exact ⟨fun h => Int.lt_of_mul_lt_mul_right h (Int.le_of_lt hc), fun h => Int.mul_lt_mul_of_pos_right h hc⟩
  have h2 : (X * c = Y * c) = (X = Y) := by
    apply propext
    exact ⟨fun h => Int.eq_of_mul_eq_mul_right (by omega) h, fun h => by rw [h]⟩
  simp only [h1, h2]
theorem signed_eq (s : Bool) (m k : Nat) : Ieee.signed s m k = sgV s (m * 2 ^ k) := by simp [Ieee.signed, sgV, Nat.shiftLeft_eq]
theorem sgV_mul (s : Bool) (V c : Nat) : sgV s (V * c) = sgV s V * (c : Int) := by
  cases s <;> simp [sgV, Int.neg_mul]
/-- How a whole number that is written stands to 2^63, and to its opposite. -/
theorem order_near {s t : Bool} {mag V m : Nat} {p : Int} (h : Near s mag V m p) : (Ieee.Datum.number s m p).order (.number t 4503599627370496 11) = some (compare (sgV s V) (sgV t 9223372036854775808)) := by
  simp only [Ieee.Datum.order, signed_eq, Option.some.injEq]
  rcases h.val with ⟨h1, h2⟩ | ⟨h1, h2⟩
  · obtain ⟨k, rfl⟩ : ∃ k : Nat, p = -(k : Int) := ⟨(-p).toNat, by omega⟩
    have e1 : min (-(k : Int)) 11 = -(k : Int) := by omega
    have e2 : (-(k : Int) - -(k : Int)).toNat = 0 := by omega
    have e3 : ((11 : Int) - -(k : Int)).toNat = 11 + k := by omega
    have e4 : (- -(k : Int)).toNat = k := by omega
    rw [e4] at h2
    have e5 : 4503599627370496 * 2 ^ (11 + k) = 9223372036854775808 * 2 ^ k := by rw [Nat.pow_add, ← Nat.mul_assoc]
    have p3 : (0 : Int) < ((2 ^ k : Nat) : Int) := by have := Nat.two_pow_pos k; omega
    rw [e1, e2, e3, e5, h2, Nat.pow_zero, Nat.mul_one, sgV_mul, sgV_mul, cmp_mul _ _ _ p3]
  · obtain ⟨k, rfl⟩ : ∃ k : Nat, p = (k : Int) := ⟨p.toNat, by omega⟩
    rw [Int.toNat_natCast] at h2
    by_cases c : k ≤ 11
    · have e1 : min (k : Int) 11 = (k : Int) := by omega
      have e2 : ((k : Int) - (k : Int)).toNat = 0 := by omega
      have e3 : ((11 : Int) - (k : Int)).toNat = 11 - k := by omega
      have e5 : 9223372036854775808 = 4503599627370496 * 2 ^ (11 - k) * 2 ^ k := by rw [Nat.mul_assoc, ← Nat.pow_add, show 11 - k + k = 11 by omega]
      have p3 : (0 : Int) < ((2 ^ k : Nat) : Int) := by have := Nat.two_pow_pos k; omega
      rw [e1, e2, e3, h2, e5, Nat.pow_zero, Nat.mul_one, sgV_mul s m, sgV_mul t (4503599627370496 * 2 ^ (11 - k)), cmp_mul _ _ _ p3]
    · have e1 : min (k : Int) 11 = 11 := by omega
      have e2 : ((k : Int) - 11).toNat = k - 11 := by omega
      have e3 : ((11 : Int) - 11).toNat = 0 := by omega
      have e5 : V = m * 2 ^ (k - 11) * 2 ^ 11 := by rw [h2, Nat.mul_assoc, ← Nat.pow_add, show k - 11 + 11 = k by omega]
      rw [e1, e2, e3, e5, show 9223372036854775808 = 4503599627370496 * 2 ^ 11 from rfl, Nat.pow_zero, Nat.mul_one, sgV_mul s (m * 2 ^ (k - 11)), sgV_mul t 4503599627370496, cmp_mul _ _ _ (by decide)]
theorem bits_wrap {x : Nat} (h : x < 18446744073709551616) : bitsOf (IntKind.i64.wrap (x : Int)) = x := by
  obtain ⟨k, h1, h2, h3⟩ := wrap_ex (x : Int)
  unfold bitsOf
  rw [wrap_u64_mod]; omega
theorem order_num {x : Nat} {s : Bool} {m : Nat} {p : Int} (h : FloatKind.f64.format.read x = .number s m p) : FloatKind.f64.format.order x x = some .eq := by
  unfold Ieee.Format.order
  rw [h]
  simp [Ieee.Datum.order, Std.ReflCmp.compare_self]
theorem canon_num {x : Nat} {s : Bool} {m : Nat} {p : Int} (h : FloatKind.f64.format.read x = .number s m p) : canon x = x := by
  unfold canon; rw [order_num h]; rfl
theorem rc1 : FloatKind.f64.format.read 4890909195324358656 = .number false 4503599627370496 11 := by decide +kernel
theorem rc2 : FloatKind.f64.format.read 14114281232179134464 = .number true 4503599627370496 11 := by decide +kernel
theorem cmp_gt (X Y : Int) : ((some (compare X Y) == some Ordering.gt) || (some (compare X Y) == some Ordering.eq)) = decide (Y ≤ X) := by
  simp only [compare, compareOfLessAndEq]
  by_cases h1 : X < Y
  · have : ¬ Y ≤ X := by omega
    simp [h1, this]
  · by_cases h2 : X = Y
    · simp [h2]
    · have : Y ≤ X := by omega
      simp [h1, h2, this]
theorem cmp_lt (X Y : Int) : (some (compare X Y) == some Ordering.lt) = decide (X < Y) := by
  simp only [compare, compareOfLessAndEq]
  by_cases h1 : X < Y
  · simp [h1]
  · by_cases h2 : X = Y
    · simp [h2]
    · simp [h1, h2]
theorem conv0 : convK 1 2 (IntKind.i64.wrap (canon (FloatKind.f64.nearest 0))) = some ((1, 0), 0) := by decide +kernel
/-- There and back. -/
theorem conv_round (n : Int) (h1 : -9223372036854775808 ≤ n) (h2 : n ≤ 9223372036854775807) :
    (convK 1 2 (IntKind.i64.wrap (canon (FloatKind.f64.nearest n))) = some ((0, 0), 4) ∧ n > 9223372036854775295) ∨
    ∃ m : Int, convK 1 2 (IntKind.i64.wrap (canon (FloatKind.f64.nearest n))) = some ((1, m), 0) ∧ (m - n ≤ 512 ∧ n - m ≤ 512) ∧ (-9007199254740992 ≤ n → n ≤ 9007199254740992 → m = n) ∧ -9223372036854775808 ≤ m ∧ m ≤ 9223372036854775807 := by
  by_cases h0 : n = 0
  · subst h0
    exact .inr ⟨0, conv0, by omega, fun _ _ => rfl, by omega, by omega⟩
  obtain ⟨V, m, p, N1⟩ := near_read (decide (n < 0)) n.natAbs (by omega) (by omega)
  obtain ⟨V2, m2, p2, N2⟩ := near_read (decide (n < 0)) V N1.pos N1.top
  have hV2 := N2.same N1.fits
  subst hV2
  have ex : FloatKind.f64.nearest n = FloatKind.f64.format.nearest (decide (n < 0)) n.natAbs 0 := rfl
  have et : truncB (FloatKind.f64.format.nearest (decide (n < 0)) n.natAbs 0) = some (FloatKind.f64.format.nearest (decide (n < 0)) V2 0) := by
    unfold truncB
    have : FloatKind.f64.decode (FloatKind.f64.format.nearest (decide (n < 0)) n.natAbs 0) = .number (decide (n < 0)) m p := N1.rd
    rw [this]
    simp only
    rw [integral_near N1]; rfl
  have e1 : FloatKind.f64.format.order (FloatKind.f64.format.nearest (decide (n < 0)) V2 0) (FloatKind.f64.format.nearest (decide (n < 0)) V2 0) = some .eq := order_num N2.rd
  have e2 : FloatKind.f64.format.order (FloatKind.f64.format.nearest (decide (n < 0)) V2 0) 4890909195324358656 = some (compare (sgV (decide (n < 0)) V2) 9223372036854775808) := by
    unfold Ieee.Format.order; rw [N2.rd, rc1, order_near N2]; rfl
  have e3 : FloatKind.f64.format.order (FloatKind.f64.format.nearest (decide (n < 0)) V2 0) 14114281232179134464 = some (compare (sgV (decide (n < 0)) V2) (-9223372036854775808)) := by
    unfold Ieee.Format.order; rw [N2.rd, rc2, order_near N2]; rfl
  have e4 : (FloatKind.f64.decode (FloatKind.f64.format.nearest (decide (n < 0)) V2 0)).toInt .zero = some (sgV (decide (n < 0)) V2) := by
    have : FloatKind.f64.decode (FloatKind.f64.format.nearest (decide (n < 0)) V2 0) = .number (decide (n < 0)) m2 p2 := N2.rd
    rw [this]; exact toInt_near N2
  have hsg : sgV (decide (n < 0)) V2 = if n < 0 then -(V2 : Int) else V2 := by
    unfold sgV; by_cases c : n < 0 <;> simp [c]
  have top := N1.top
  have off := N1.off
  have below := N1.below
  have lt : ¬ sgV (decide (n < 0)) V2 < -9223372036854775808 := by rw [hsg]; split <;> omega
  have hb : badB (FloatKind.f64.format.nearest (decide (n < 0)) V2 0) = decide (9223372036854775808 ≤ sgV (decide (n < 0)) V2) := by
    unfold badB
    rw [e1, e2, e3, cmp_gt, cmp_lt, decide_eq_false lt]
    simp
  have hK : convK 1 2 (IntKind.i64.wrap (canon (FloatKind.f64.nearest n))) = if badB (FloatKind.f64.format.nearest (decide (n < 0)) V2 0) = true then some ((0, 0), 4) else (floatToIntVal .f64 (FloatKind.f64.format.nearest (decide (n < 0)) V2 0) .i64).map fun n => ((1, n), 0) := by
    rw [ex, canon_num N1.rd]
    unfold convK
    rw [bits_wrap N1.lt, et]
    rfl
  rw [hK, hb]
  by_cases c : 9223372036854775808 ≤ sgV (decide (n < 0)) V2
  · left
    rw [decide_eq_true c, if_pos rfl]
    refine ⟨rfl, ?_⟩
    rw [hsg] at c
    split at c <;> omega
  · right
    rw [decide_eq_false c, if_neg (by simp)]
    refine ⟨sgV (decide (n < 0)) V2, ?_, ?_, ?_, ?_, ?_⟩
    · unfold floatToIntVal
      rw [e4]
      simp only
      rw [if_pos]
      · rfl
      · simp only [IntKind.min, IntKind.max, IntKind.bits, IntKind.signed]
        simp
        rw [hsg] at c lt ⊢
        constructor <;> omega
    · rw [hsg]; split <;> omega
    · intro k1 k2
      have hf : Fits n.natAbs := ⟨n.natAbs, 0, by omega, by omega⟩
      have := N1.same hf
      rw [hsg]; split <;> omega
    · omega
    · omega
set_option maxHeartbeats 1000000 in
theorem valConvs_c (n : Int) (h1 : -9223372036854775808 ≤ n) (h2 : n ≤ 9223372036854775807) : PCall Try.prog 13 [.int .i64 n] (.bool true) := by
  refine PCall.run tb42_ok st13 (by simp) fun E => ?_
  have k1 : convK 2 1 n = some ((2, IntKind.i64.wrap (canon (FloatKind.f64.nearest n))), 0) := rfl
  rcases conv_round n h1 h2 with ⟨k2, hn⟩ | ⟨m, k2, hm1, hm2, hm3, hm4⟩
  · have g1 : (n ≤ 9007199254740992) = False := by simp; omega
    have g2 : (n > 9223372036854775295) = True := by simp; omega
    have g3 : (n ≥ -9007199254740992) = True := by simp; omega
    simp (config := {maxSteps := 1000000}) only [s13, k1, k2, g1, g2, g3, q27, q42, q28, resD, valD, tb42_e, Int.natCast_nonneg, Nat.le_refl, Int.le_refl, List.take_succ_cons, List.take_zero, decide_true, decide_false, Bool.and_false, Bool.false_and, zz, zzN, zzF, fltEv, isArithF, ↓reduceIte, Nat.reduceEqDiff, Nat.reduceBEq, Int.reduceLT, Int.reduceLE, Int.reduceToNat, Int.reduceEq, Int.reduceAdd, Int.reduceSub, Int.reduceMul, Int.reduceNeg, Nat.reduceMul, Nat.reduceSub, Nat.reduceLeDiff, Nat.reduceLT, Int.reduceGT, Int.reduceBEq, Int.reduceBNe, reduceCtorEq, Nat.reduceAdd, Ins.map, Fr.ev, argFr, argE, binEv, intEv, shEv, strEv, unEv, Fr.mark, evRes, tup, lenD, lookupD, loadD, partD, storeD, cellsD, cellOk, setAt, objNe, objSame, eqEv, readEv, buildD, buildRows, rowsOf, elemsOf]
  · simp (config := {maxSteps := 1000000}) only [s13, k1, k2, q27, q42, q28, resD, valD, tb42_e, Int.natCast_nonneg, Nat.le_refl, Int.le_refl, List.take_succ_cons, List.take_zero, decide_true, decide_false, Bool.and_false, Bool.false_and, zz, zzN, zzF, fltEv, isArithF, ↓reduceIte, Nat.reduceEqDiff, Nat.reduceBEq, Int.reduceLT, Int.reduceLE, Int.reduceToNat, Int.reduceEq, Int.reduceAdd, Int.reduceSub, Int.reduceMul, Int.reduceNeg, Nat.reduceMul, Nat.reduceSub, Nat.reduceLeDiff, Nat.reduceLT, Int.reduceGT, Int.reduceBEq, Int.reduceBNe, reduceCtorEq, Nat.reduceAdd, Ins.map, Fr.ev, argFr, argE, binEv, intEv, shEv, strEv, unEv, Fr.mark, evRes, tup, lenD, lookupD, loadD, partD, storeD, cellsD, cellOk, setAt, objNe, objSame, eqEv, readEv, buildD, buildRows, rowsOf, elemsOf]
    intro i1 i2 f1 f2
    have u1 : m < n → IntKind.u64.wrap (IntKind.u64.wrap n - IntKind.u64.wrap m) ≤ 512 := fun h => by simp only [wrap_u64_mod]; omega
    have u2 : ¬ m < n → IntKind.u64.wrap (IntKind.u64.wrap m - IntKind.u64.wrap n) ≤ 512 := fun h => by simp only [wrap_u64_mod]; omega
    have u3 : (if m < n then IntKind.u64.wrap (IntKind.u64.wrap n - IntKind.u64.wrap m) ≤ 512 ∨ IntKind.u64.wrap (IntKind.u64.wrap n - IntKind.u64.wrap m) ≤ 512 else IntKind.u64.wrap (IntKind.u64.wrap m - IntKind.u64.wrap n) ≤ 512 ∨ IntKind.u64.wrap (IntKind.u64.wrap m - IntKind.u64.wrap n) ≤ 512) := by
      split
      · rename_i h; exact .inl (u1 h)
      · rename_i h; exact .inl (u2 h)
    split
    · rename_i c1
      split
      · rename_i c2
        have hm := hm2 c1 c2
        rw [if_neg (by simp [hm])]
        exact u3
      · exact u3
    · exact u3
theorem valConvs_d (n : Int) (h : (Lit.int .i64 n).wf = true) : PCall Try.prog 13 [.int .i64 n] (.bool true) := by
  simp [Lit.wf, IntKind.min, IntKind.max, IntKind.bits, IntKind.signed] at h
  exact valConvs_c n (by omega) (by omega)
end Go.Proofs.Ytaimobfakcompaa.Zz
