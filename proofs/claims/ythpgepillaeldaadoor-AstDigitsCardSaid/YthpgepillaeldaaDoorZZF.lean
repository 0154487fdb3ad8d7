/- Whole numbers that a float has: sums and products are exact. -/
import Derived.Test.YthpgepillaeldaaDoorZX
set_option linter.unusedVariables false
set_option linter.unusedSimpArgs false
namespace Go.Proofs.YthpgepillaeldaaDoor.Zz
theorem fxB : FloatKind.f64.format.binade = 4503599627370496 := by decide
theorem fxI : FloatKind.f64.format.infRung = 2047 * 4503599627370496 := by decide
theorem fxS : FloatKind.f64.format.signWeight = 9223372036854775808 := by decide
theorem fxL : FloatKind.f64.format.leastPlace = -1074 := by decide
theorem fxF : FloatKind.f64.format.fractionBits = 52 := rfl
/-- The float of a whole number. -/
def fxN (m : Nat) : Nat := FloatKind.f64.format.nearest false m 0
theorem fx_min {L k : Nat} (c : L ≤ 52) (h : k < 9007199254740992) : min ((L + 1022) * 4503599627370496 + k) (2047 * 4503599627370496) = (L + 1022) * 4503599627370496 + k := by omega
/-- Scaled by a power of two, it is the same number. -/
theorem fx_near (m a : Nat) (h0 : 0 < m) (h : m < 9007199254740992) : FloatKind.f64.format.nearest false (m * 2 ^ a) (-(a : Int)) = (m.log2 + 1022) * 4503599627370496 + m * 2 ^ (52 - m.log2) ∧ 4503599627370496 ≤ m * 2 ^ (52 - m.log2) ∧ m * 2 ^ (52 - m.log2) < 9007199254740992 ∧ m.log2 ≤ 52 := by
  have l1 : 2 ^ m.log2 ≤ m := Nat.log2_self_le (by omega)
  have l2 : m < 2 ^ (m.log2 + 1) := Nat.lt_log2_self
  have l3 : m.log2 ≤ 52 := by
    rcases Nat.lt_or_ge 52 m.log2 with h' | h'
    · have := Nat.pow_le_pow_right (show 0 < 2 by decide) (show 53 ≤ m.log2 from h')
      omega
    · exact h'
  have hlg : (m * 2 ^ a).log2 = m.log2 + a := by
    rw [Nat.log2_eq_iff (by have := Nat.two_pow_pos a; exact Nat.ne_of_gt (Nat.mul_pos h0 this))]
    constructor
    · rw [Nat.pow_add]; exact Nat.mul_le_mul_right _ l1
    · rw [show m.log2 + a + 1 = m.log2 + 1 + a by omega, Nat.pow_add]; exact Nat.mul_lt_mul_of_pos_right l2 (Nat.two_pow_pos a)
  generalize hL : m.log2 = L at *
  have p1 : 2 ^ L * 2 ^ (52 - L) = 4503599627370496 := by rw [← Nat.pow_add, show L + (52 - L) = 52 by omega]
  have p2 : 2 ^ (L + 1) * 2 ^ (52 - L) = 9007199254740992 := by rw [← Nat.pow_add, show L + 1 + (52 - L) = 53 by omega]
  have k1 : 4503599627370496 ≤ m * 2 ^ (52 - L) := by rw [← p1]; exact Nat.mul_le_mul_right _ l1
  have k2 : m * 2 ^ (52 - L) < 9007199254740992 := by rw [← p2]; exact Nat.mul_lt_mul_of_pos_right l2 (Nat.two_pow_pos _)
  refine ⟨?_, k1, k2, l3⟩
  have hne : m * 2 ^ a ≠ 0 := Nat.ne_of_gt (Nat.mul_pos h0 (Nat.two_pow_pos a))
  unfold Ieee.Format.nearest
  rw [if_neg hne, hlg]
  simp only [fxL, fxB, fxF, fxI]
  have hlast : max (-(a : Int) + ((L + a : Nat) : Int) - ((52 : Nat) : Int)) (-1074) = (L : Int) - 52 := by omega
  rw [hlast]
  have t3 : ((L : Int) - 52 - -1074).toNat = L + 1022 := by omega
  rw [t3]
  have key : Ieee.Toward.even.cut false ((m * 2 ^ a) <<< (-(a : Int) - ((L : Int) - 52)).toNat) ((L : Int) - 52 - -(a : Int)).toNat = m * 2 ^ (52 - L) := by
    by_cases c : a ≤ 52 - L
    · have t1 : (-(a : Int) - ((L : Int) - 52)).toNat = 52 - L - a := by omega
      have t2 : ((L : Int) - 52 - -(a : Int)).toNat = 0 := by omega
      rw [t1, t2, Nat.shiftLeft_eq, Nat.mul_assoc, ← Nat.pow_add, show a + (52 - L - a) = 52 - L by omega]
      generalize m * 2 ^ (52 - L) = k
      simp [Ieee.Toward.cut, Nat.mod_one]
    · have t1 : (-(a : Int) - ((L : Int) - 52)).toNat = 0 := by omega
      have t2 : ((L : Int) - 52 - -(a : Int)).toNat = a - (52 - L) := by omega
      rw [t1, t2, Nat.shiftLeft_zero]
      obtain ⟨d, hd⟩ : ∃ d, a = 52 - L + d ∧ 0 < d := ⟨a - (52 - L), by omega, by omega⟩
      have e1 : m * 2 ^ a = m * 2 ^ (52 - L) * 2 ^ d := by rw [hd.1, Nat.pow_add, Nat.mul_assoc]
      have e2 : a - (52 - L) = d := by omega
      rw [e2]
      unfold Ieee.Toward.cut
      have e3 : min d ((m * 2 ^ a).log2 + 2) = d := by rw [hlg]; omega
      simp only [e3, Nat.one_shiftLeft]
      rw [e1, Nat.mul_div_cancel _ (Nat.two_pow_pos d), Nat.mul_mod_left]
      have h4 : ((2 ^ d == 2 * 0) = false) := by have := Nat.two_pow_pos d; simp
      have h5 : decide (2 ^ d < 2 * 0) = false := by simp
      rw [h4, h5]
      simp only [Bool.false_and, Bool.or_false, Bool.toNat_false, Nat.add_zero]
  rw [key]
  unfold Ieee.Format.word
  rw [if_neg (by decide)]
  exact fx_min l3 k2
theorem fx_scale (m a : Nat) (h : m < 9007199254740992) : FloatKind.f64.format.nearest false (m * 2 ^ a) (-(a : Int)) = fxN m := by
  by_cases h0 : m = 0
  · subst h0; simp [fxN, Ieee.Format.nearest]
  · have h1 := (fx_near m a (by omega) h).1
    have h2 := (fx_near m 0 (by omega) h).1
    rw [h1]
    unfold fxN
    simp only [Nat.pow_zero, Nat.mul_one, Int.natCast_zero, Int.neg_zero] at h2
    exact h2.symm
theorem fx_read (m : Nat) (h : m < 9007199254740992) : ∃ e : Nat, FloatKind.f64.format.read (fxN m) = .number false (m * 2 ^ e) (-(e : Int)) := by
  by_cases h0 : m = 0
  · subst h0
    have e0 : fxN 0 = 0 := by simp [fxN, Ieee.Format.nearest, Ieee.Format.word]
    have e1 : FloatKind.f64.format.read 0 = .number false 0 (-1074) := by decide
    obtain ⟨e, he⟩ : ∃ e : Nat, (-(e : Int)) = -1074 := ⟨1074, rfl⟩
    exact ⟨e, by rw [e0, e1, Nat.zero_mul, he]⟩
  · obtain ⟨h1, h2, h3, h4⟩ := fx_near m 0 (by omega) h
    simp only [Nat.pow_zero, Nat.mul_one, Int.natCast_zero, Int.neg_zero] at h1
    refine ⟨52 - m.log2, ?_⟩
    have e : fxN m = (m.log2 + 1022) * 4503599627370496 + m * 2 ^ (52 - m.log2) := h1
    rw [e]
    generalize m * 2 ^ (52 - m.log2) = k at h2 h3
    generalize m.log2 = L at h4
    unfold Ieee.Format.read
    simp only [fxS, fxB, fxI, fxL]
    have a1 : ((L + 1022) * 4503599627370496 + k) / 9223372036854775808 = 0 := by omega
    have a2 : ((L + 1022) * 4503599627370496 + k) % 9223372036854775808 = (L + 1022) * 4503599627370496 + k := by omega
    have a3 : ((L + 1022) * 4503599627370496 + k) % 4503599627370496 = k - 4503599627370496 := by omega
    have a4 : ((L + 1022) * 4503599627370496 + k) / 4503599627370496 = L + 1023 := by omega
    have b1 : 4503599627370496 + (k - 4503599627370496) = k := by omega
    have b2 : -1074 + ((L + 1023 - 1 : Nat) : Int) = -((52 - L : Nat) : Int) := by omega
    rw [a1, a2, a3, a4, if_neg (by omega), if_pos (by omega), b1, b2]
    rfl
theorem fx_mul (m n : Nat) (hm : m < 9007199254740992) (hn : n < 9007199254740992) (h : m * n < 9007199254740992) : floatBits .mul .f64 (fxN m) (fxN n) = some (fxN (m * n)) := by
  obtain ⟨e, h1⟩ := fx_read m hm
  obtain ⟨f, h2⟩ := fx_read n hn
  show FloatKind.f64.format.mul _ _ = _
  unfold Ieee.Format.mul
  rw [h1, h2]
  simp only [Ieee.Datum.product, Option.map_some, Ieee.Format.write, Bool.xor_self]
  have e1 : m * 2 ^ e * (n * 2 ^ f) = m * n * 2 ^ (e + f) := by rw [Nat.pow_add]; simp only [Nat.mul_assoc, Nat.mul_comm, Nat.mul_left_comm]
  have e2 : -(e : Int) + -(f : Int) = -((e + f : Nat) : Int) := by omega
  rw [e1, e2, fx_scale _ _ h]
theorem fx_add (m n : Nat) (hm : m < 9007199254740992) (hn : n < 9007199254740992) (h : m + n < 9007199254740992) : floatBits .add .f64 (fxN m) (fxN n) = some (fxN (m + n)) := by
  obtain ⟨e, h1⟩ := fx_read m hm
  obtain ⟨f, h2⟩ := fx_read n hn
  show FloatKind.f64.format.add _ _ = _
  unfold Ieee.Format.add
  rw [h1, h2]
  simp only [Ieee.Datum.sum, Option.map_some, Ieee.Format.write, Ieee.signed, Bool.false_eq_true, if_false, Nat.shiftLeft_eq]
  obtain ⟨g, hg, g1, g2⟩ : ∃ g : Nat, min (-(e : Int)) (-(f : Int)) = -(g : Int) ∧ e ≤ g ∧ f ≤ g := ⟨max e f, by omega, by omega, by omega⟩
  rw [hg]
  have t1 : (-(e : Int) - -(g : Int)).toNat = g - e := by omega
  have t2 : (-(f : Int) - -(g : Int)).toNat = g - f := by omega
  rw [t1, t2, Nat.mul_assoc, Nat.mul_assoc, ← Nat.pow_add, ← Nat.pow_add, show e + (g - e) = g by omega, show f + (g - f) = g by omega]
  have e1 : ((m * 2 ^ g : Nat) : Int) + ((n * 2 ^ g : Nat) : Int) = (((m + n) * 2 ^ g : Nat) : Int) := by rw [Nat.add_mul]; omega
  rw [e1]
  have e2 : ((((m + n) * 2 ^ g : Nat) : Int).natAbs) = (m + n) * 2 ^ g := Int.natAbs_natCast _
  rw [e2]
  have e3 : (if ((((m + n) * 2 ^ g : Nat) : Int) = 0) then (false && false) else decide ((((m + n) * 2 ^ g : Nat) : Int) < 0)) = false := by
    split
    · rfl
    · simp only [decide_eq_false_iff_not]; omega
  rw [e3, fx_scale _ _ h]
theorem fx_lt (mag : Nat) (p : Int) : FloatKind.f64.format.nearest false mag p ≤ 2047 * 4503599627370496 := by
  unfold Ieee.Format.nearest
  split
  · simp [Ieee.Format.word]
  · simp only [Ieee.Format.word, Bool.false_eq_true, if_false, fxI]
    exact Nat.min_le_right _ _
/-- A quotient: a number, or infinity. -/
theorem fx_div (m n : Nat) (hm : m < 9007199254740992) (hn : n < 9007199254740992) (h0 : 0 < n) : ∃ r, floatBits .quo .f64 (fxN m) (fxN n) = some r ∧ r ≤ 2047 * 4503599627370496 := by
  obtain ⟨e, h1⟩ := fx_read m hm
  obtain ⟨f, h2⟩ := fx_read n hn
  show ∃ r, FloatKind.f64.format.div _ _ = some r ∧ _
  unfold Ieee.Format.div
  rw [h1, h2]
  have hne : ¬ (n * 2 ^ f = 0) := Nat.ne_of_gt (Nat.mul_pos h0 (Nat.two_pow_pos f))
  simp only [Ieee.Datum.quotient, if_neg hne, Option.map_some, Ieee.Format.write, Bool.xor_self]
  exact ⟨_, rfl, fx_lt _ _⟩
theorem fx_order (r : Nat) (h : r ≤ 2047 * 4503599627370496) : FloatKind.f64.format.order r r = some .eq := by
  unfold Ieee.Format.order Ieee.Format.read
  simp only [fxS, fxB, fxI, fxL]
  have a1 : r / 9223372036854775808 = 0 := by omega
  have a2 : r % 9223372036854775808 = r := by omega
  rw [a1, a2]
  split
  · simp [Ieee.Datum.order, Std.ReflCmp.compare_self]
  · split
    · simp [Ieee.Datum.order, Std.ReflCmp.compare_self]
    · rw [if_pos (by omega)]
      simp [Ieee.Datum.order, Std.ReflCmp.compare_self]
theorem fx_ten : fxN 10 = 4621819117588971520 := by decide
theorem fx_one : fxN 1 = 4607182418800017408 := by decide
theorem fx_nought : fxN 0 = 0 := by decide
theorem fx_int (n : Nat) : FloatKind.f64.nearest (n : Int) = fxN n := by
  have : FloatKind.f64.nearest (n : Int) = FloatKind.f64.format.nearest (decide ((n : Int) < 0)) (n : Int).natAbs 0 := rfl
  rw [this, show decide ((n : Int) < 0) = false by simp, Int.natAbs_natCast]
  rfl
end Go.Proofs.YthpgepillaeldaaDoor.Zz
