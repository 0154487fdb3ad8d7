/- Plain law: whole numbers as numbers with a point. -/
import Derived.Test.YtaimobfakcompaaZV2
namespace Go.Proofs.Ytaimobfakcompaa.Zz
set_option linter.unusedVariables false
set_option linter.unusedSimpArgs false

theorem dB : FloatKind.f64.format.binade = 4503599627370496 := by decide
theorem dI : FloatKind.f64.format.infRung = 2047 * 4503599627370496 := by decide
theorem dS : FloatKind.f64.format.signWeight = 9223372036854775808 := by decide
theorem dL : FloatKind.f64.format.leastPlace = -1074 := by decide
theorem dF : FloatKind.f64.format.fractionBits = 52 := rfl
/-- What a word of a rung reads as. -/
theorem read_word (neg : Bool) (q r : Nat) (hr : r < 4503599627370496) (h1 : 1 ≤ q) (h2 : q < 2047) :
    FloatKind.f64.format.read (FloatKind.f64.format.word neg (q * 4503599627370496 + r)) = .number neg (4503599627370496 + r) (-1074 + ((q - 1 : Nat) : Int)) ∧ FloatKind.f64.format.word neg (q * 4503599627370496 + r) < 18446744073709551616 := by
  have e1 : ∀ s : Nat, s < 9223372036854775808 → ∀ b : Bool, ((if b then 9223372036854775808 + s else s) / 9223372036854775808 % 2 == 1) = b ∧ (if b then 9223372036854775808 + s else s) % 9223372036854775808 = s := fun s hs b => by
    cases b
    · simp only [Bool.false_eq_true, if_false]
      rw [Nat.div_eq_of_lt hs, Nat.mod_eq_of_lt hs]; exact ⟨rfl, rfl⟩
    · simp only [if_true]
      rw [show (9223372036854775808 + s) / 9223372036854775808 = 1 by omega, show (9223372036854775808 + s) % 9223372036854775808 = s by omega]; exact ⟨rfl, rfl⟩
  have hs : q * 4503599627370496 + r < 9223372036854775808 := by omega
  obtain ⟨a1, a2⟩ := e1 _ hs neg
  have e2 : (q * 4503599627370496 + r) % 4503599627370496 = r := by omega
  have e3 : (q * 4503599627370496 + r) / 4503599627370496 = q := by omega
  refine ⟨?_, ?_⟩
  · unfold Ieee.Format.read Ieee.Format.word
    simp only [dS, dB, dI, dL]
    rw [a1, a2, if_neg (by omega), if_pos (by omega), e2, e3]
  · unfold Ieee.Format.word
    rw [dS]; split <;> omega
/-- A number of at most 53 digits, and noughts. -/
def Fits (v : Nat) : Prop := ∃ k e : Nat, v = k * 2 ^ e ∧ k ≤ 9007199254740992
/-- What a whole number becomes. -/
structure Near (neg : Bool) (mag V : Nat) (m : Nat) (p : Int) : Prop where
  rd : FloatKind.f64.format.read (FloatKind.f64.format.nearest neg mag 0) = .number neg m p
  lt : FloatKind.f64.format.nearest neg mag 0 < 18446744073709551616
  val : (p ≤ 0 ∧ m = V * 2 ^ (-p).toNat) ∨ (0 ≤ p ∧ V = m * 2 ^ p.toNat)
  fits : Fits V
  same : Fits mag → V = mag
  pos : 0 < V
  top : V ≤ 9223372036854775808
  off : V ≤ mag + 512 ∧ mag ≤ V + 512
  below : mag < 9223372036854775808 - 512 → V < 9223372036854775808
theorem rung_lem {L k r : Nat} (c : L ≤ 52) (hr : k = 4503599627370496 + r) (h : k < 9007199254740992) : min ((L + 1022) * 4503599627370496 + k) (2047 * 4503599627370496) = (L + 1023) * 4503599627370496 + r := by omega
theorem min_lem {d u : Nat} (h : d ≤ 11) (hu : u ≤ 9007199254740992) : min ((d + 1074) * 4503599627370496 + u) (2047 * 4503599627370496) = (d + 1074) * 4503599627370496 + u := by omega
theorem pow_52d (d : Nat) : 2 ^ (52 + d) = 4503599627370496 * 2 ^ d := by rw [Nat.pow_add]
theorem pow_53d (d : Nat) : 2 ^ (52 + d + 1) = 9007199254740992 * 2 ^ d := by rw [show 52 + d + 1 = 53 + d by omega, Nat.pow_add]
theorem near_word (neg : Bool) (mag d : Nat) (h1 : 0 < mag) (hL : mag.log2 = 52 + d) :
    FloatKind.f64.format.nearest neg mag 0 = FloatKind.f64.format.word neg (min ((d + 1074) * 4503599627370496 + (mag / 2 ^ d + (decide (2 ^ d < 2 * (mag % 2 ^ d)) || (2 ^ d == 2 * (mag % 2 ^ d) && mag / 2 ^ d % 2 == 1)).toNat)) (2047 * 4503599627370496)) := by
  unfold Ieee.Format.nearest
  rw [if_neg (by omega), hL]
  simp only [dL, dB, dF, dI]
  have hlast' : max ((0 : Int) + ((52 + d : Nat) : Int) - ((52 : Nat) : Int)) (-1074) = (d : Int) := by omega
  rw [hlast']
  have t1 : ((0 : Int) - (d : Int)).toNat = 0 := by omega
  have t2 : ((d : Int) - 0).toNat = d := by omega
  have t3 : ((d : Int) - -1074).toNat = d + 1074 := by omega
  have t4 : Ieee.Toward.even.cut neg mag d = mag / 2 ^ d + (decide (2 ^ d < 2 * (mag % 2 ^ d)) || (2 ^ d == 2 * (mag % 2 ^ d) && mag / 2 ^ d % 2 == 1)).toNat := by
    unfold Ieee.Toward.cut
    have g : (1 : Nat) <<< min d (mag.log2 + 2) = 2 ^ d := by rw [Nat.shiftLeft_eq, hL, Nat.min_eq_left (by omega), Nat.one_mul]
    simp only [g]
  simp only [t1, t2, t3, Nat.shiftLeft_zero, t4]
theorem cut_val {G low rest u mag : Nat} (hdm : G * low + rest = mag) (ho : (u = low ∧ 2 * rest ≤ G) ∨ (u = low + 1 ∧ G ≤ 2 * rest)) : (u * G = G * low ∧ 2 * rest ≤ G) ∨ (u * G = G * low + G ∧ G ≤ 2 * rest) := by
  rcases ho with ⟨rfl, h⟩ | ⟨rfl, h⟩
  · exact .inl ⟨Nat.mul_comm _ _, h⟩
  · exact .inr ⟨by rw [Nat.add_mul, Nat.mul_comm low G, Nat.one_mul], h⟩
theorem cut_off {G P rest V mag : Nat} (hdm : P + rest = mag) (hr : rest < G) (hv : (V = P ∧ 2 * rest ≤ G) ∨ (V = P + G ∧ G ≤ 2 * rest)) (hG : G ≤ 1024 ∨ rest = 0) (hG0 : 0 < G) : V ≤ mag + 512 ∧ mag ≤ V + 512 := by omega
theorem cut_top {G low rest u mag K : Nat} (hdm : G * low + rest = mag) (hr : rest < G) (ho : (u = low ∧ 2 * rest ≤ G) ∨ (u = low + 1 ∧ G ≤ 2 * rest)) (hG : 0 < G) (hK : mag ≤ G * K) : u * G ≤ G * K := by
  rw [Nat.mul_comm u G]
  refine Nat.mul_le_mul_left _ ?_
  rcases ho with ⟨rfl, h⟩ | ⟨rfl, h⟩
  · exact Nat.le_of_mul_le_mul_left (show G * u ≤ G * K by omega) hG
  · exact Nat.lt_of_mul_lt_mul_left (show G * low < G * K by omega)
theorem fits_dvd {mag d : Nat} (hd : 1 ≤ d) (l1 : 4503599627370496 * 2 ^ d ≤ mag) (hf : Fits mag) : 2 ^ d ∣ mag := by
  obtain ⟨k, e, he, hk⟩ := hf
  by_cases c : d ≤ e
  · rw [he]; exact Nat.dvd_trans (Nat.pow_dvd_pow 2 c) (Nat.dvd_mul_left _ _)
  · have h1 : 2 ^ e * 2 ≤ 2 ^ d := by rw [← Nat.pow_succ]; exact Nat.pow_le_pow_right (by decide) (by omega)
    have h2 : k * 2 ^ e ≤ 9007199254740992 * 2 ^ e := Nat.mul_le_mul_right _ hk
    have h3 : mag = 4503599627370496 * 2 ^ d := by omega
    rw [h3]; exact Nat.dvd_mul_left _ _
theorem near_cut (neg : Bool) (mag d : Nat) (h1 : 0 < mag) (h2 : mag ≤ 9223372036854775808) (hd1 : 1 ≤ d) (hd2 : d ≤ 11) (l1 : 4503599627370496 * 2 ^ d ≤ mag) (l2 : mag < 9007199254740992 * 2 ^ d) (hL : mag.log2 = 52 + d) : ∃ V m p, Near neg mag V m p := by
  have p3 : 0 < 2 ^ d := Nat.two_pow_pos _
  have hn := near_word neg mag d h1 hL
  have hdv := fun hf => fits_dvd hd1 l1 hf
  have pd : 2 ^ d ≤ 1024 ∨ 2 ^ d = 2048 := by
    have : d = 1 ∨ d = 2 ∨ d = 3 ∨ d = 4 ∨ d = 5 ∨ d = 6 ∨ d = 7 ∨ d = 8 ∨ d = 9 ∨ d = 10 ∨ d = 11 := by omega
    rcases this with rfl | rfl | rfl | rfl | rfl | rfl | rfl | rfl | rfl | rfl | rfl <;> decide
  have hK : ∃ K, 9223372036854775808 = 2 ^ d * K := ⟨2 ^ (63 - d), by rw [← Nat.pow_add, show d + (63 - d) = 63 by omega]⟩
  have hdm : 2 ^ d * (mag / 2 ^ d) + mag % 2 ^ d = mag := Nat.div_add_mod _ _
  have hr : mag % 2 ^ d < 2 ^ d := Nat.mod_lt _ p3
  have hl1 : 4503599627370496 ≤ mag / 2 ^ d := by rw [Nat.le_div_iff_mul_le p3]; exact l1
  have hl2 : mag / 2 ^ d < 9007199254740992 := by rw [Nat.div_lt_iff_lt_mul p3]; exact l2
  have hdr : 2 ^ d ∣ mag → mag % 2 ^ d = 0 := Nat.mod_eq_zero_of_dvd
  have hp : ∀ u, u * 2 ^ d = u * 2 ^ d := fun _ => rfl
  have hpow : 2 ^ (d + 1) = 2 * 2 ^ d := by rw [Nat.pow_succ, Nat.mul_comm]
  generalize mag / 2 ^ d = low at *
  generalize mag % 2 ^ d = rest at *
  generalize hG : 2 ^ d = G at *
  obtain ⟨u, hu⟩ : ∃ u, u = low + (decide (G < 2 * rest) || (G == 2 * rest && low % 2 == 1)).toNat := ⟨_, rfl⟩
  have ho : (u = low ∧ 2 * rest ≤ G) ∨ (u = low + 1 ∧ G ≤ 2 * rest) := by
    cases hm : (decide (G < 2 * rest) || (G == 2 * rest && low % 2 == 1)) with
    | true =>
      right; rw [hm] at hu
      refine ⟨hu, ?_⟩
      simp only [Bool.or_eq_true, decide_eq_true_eq, Bool.and_eq_true, beq_iff_eq] at hm
      clear hn l1 l2 h2 hdm; omega
    | false =>
      left; rw [hm] at hu
      refine ⟨hu, ?_⟩
      simp only [Bool.or_eq_false_iff, decide_eq_false_iff_not] at hm
      clear hn l1 l2 h2 hdm; omega
  rw [← hu] at hn
  have hu53 : u ≤ 9007199254740992 := by clear hn l1 l2 h2 hdm; omega
  rw [min_lem hd2 hu53] at hn
  have hv := cut_val hdm ho
  obtain ⟨K, hK⟩ := hK
  have htop : u * G ≤ 9223372036854775808 := by rw [hK]; exact cut_top hdm hr ho p3 (by rw [← hK]; exact h2)
  have hoff : u * G ≤ mag + 512 ∧ mag ≤ u * G + 512 := by
    refine cut_off hdm hr hv ?_ p3
    rcases pd with e | e
    · exact .inl e
    · right; rw [e] at l1 hdm hr; clear hn hK hv htop; omega
  have hsame : Fits mag → u * G = mag := fun hf => by
    have h0 := hdr (hdv hf)
    clear hn hK htop
    omega
  have hbelow : mag < 9223372036854775808 - 512 → u * G < 9223372036854775808 := fun h => by
    have := hoff.1
    clear hn hK hv; omega
  have hfits : Fits (u * G) := ⟨u, d, by rw [hG], hu53⟩
  have hpos : 0 < u * G := Nat.mul_pos (by clear hn hK hv htop hoff; omega) p3
  by_cases cu : u < 9007199254740992
  · obtain ⟨r, hr'⟩ : ∃ r, u = 4503599627370496 + r := ⟨_, (Nat.add_sub_of_le (show 4503599627370496 ≤ u by clear hn hK hv htop hoff; omega)).symm⟩
    obtain ⟨r1, r2⟩ := read_word neg (d + 1075) r (by clear hn hK hv htop hoff; omega) (by clear hn hK hv htop hoff; omega) (by clear hn hK hv htop hoff; omega)
    have q0 : (d + 1075) * 4503599627370496 + r = (d + 1074) * 4503599627370496 + u := by clear hn hK hv htop hoff r1 r2; omega
    have q2 : -1074 + ((d + 1075 - 1 : Nat) : Int) = (d : Int) := by clear hn hK hv htop hoff r1 r2; omega
    rw [q0, ← hr', q2] at r1
    rw [q0] at r2
    exact ⟨u * G, u, d, { rd := by rw [hn]; exact r1, lt := by rw [hn]; exact r2, val := .inr ⟨Int.natCast_nonneg d, by rw [Int.toNat_natCast, hG]⟩, fits := hfits, same := hsame, pos := hpos, top := htop, off := hoff, below := hbelow }⟩
  · have hu53' : u = 9007199254740992 := by clear hn hK hv htop hoff; omega
    obtain ⟨r1, r2⟩ := read_word neg (d + 1076) 0 (by decide) (by clear hn hK hv htop hoff; omega) (by clear hn hK hv htop hoff; omega)
    have q0 : (d + 1076) * 4503599627370496 + 0 = (d + 1074) * 4503599627370496 + u := by clear hn hK hv htop hoff r1 r2; omega
    have q2 : -1074 + ((d + 1076 - 1 : Nat) : Int) = (d : Int) + 1 := by clear hn hK hv htop hoff r1 r2; omega
    rw [q0, q2] at r1
    rw [q0] at r2
    refine ⟨u * G, 4503599627370496 + 0, (d : Int) + 1, { rd := by rw [hn]; exact r1, lt := by rw [hn]; exact r2, val := .inr ⟨by clear hn hK hv htop hoff r1 r2; omega, ?_⟩, fits := hfits, same := hsame, pos := hpos, top := htop, off := hoff, below := hbelow }⟩
    have : ((d : Int) + 1).toNat = d + 1 := by clear hn hK hv htop hoff r1 r2; omega
    rw [this, hu53', hpow]
    clear hn hK hv htop hoff r1 r2; omega
theorem near_read (neg : Bool) (mag : Nat) (h1 : 0 < mag) (h2 : mag ≤ 9223372036854775808) : ∃ V m p, Near neg mag V m p := by
  have l1 : 2 ^ mag.log2 ≤ mag := Nat.log2_self_le (by omega)
  have l2 : mag < 2 ^ (mag.log2 + 1) := Nat.lt_log2_self
  have l3 : mag.log2 ≤ 63 := by
    rcases Nat.lt_or_ge 63 mag.log2 with h | h
    · have := Nat.pow_le_pow_right (show 0 < 2 by decide) (show 64 ≤ mag.log2 from h)
      omega
    · exact h
  generalize hL : mag.log2 = L at *
  have hlast : max ((0 : Int) + (L : Int) - (52 : Nat)) (-1074) = (L : Int) - 52 := by omega
  by_cases c : L ≤ 52
  · -- it is exact
    have hk : 4503599627370496 ≤ mag * 2 ^ (52 - L) ∧ mag * 2 ^ (52 - L) < 9007199254740992 := by
      have p1 : 2 ^ L * 2 ^ (52 - L) = 4503599627370496 := by rw [← Nat.pow_add, show L + (52 - L) = 52 by omega]
      have p2 : 2 ^ (L + 1) * 2 ^ (52 - L) = 9007199254740992 := by rw [← Nat.pow_add, show L + 1 + (52 - L) = 53 by omega]
      have p3 : 0 < 2 ^ (52 - L) := Nat.two_pow_pos _
      constructor
      · rw [← p1]; exact Nat.mul_le_mul_right _ l1
      · rw [← p2]; exact Nat.mul_lt_mul_of_pos_right l2 p3
    obtain ⟨r, hr⟩ : ∃ r, mag * 2 ^ (52 - L) = 4503599627370496 + r := ⟨_, (Nat.add_sub_of_le hk.1).symm⟩
    have hn : FloatKind.f64.format.nearest neg mag 0 = FloatKind.f64.format.word neg ((L + 1023) * 4503599627370496 + r) := by
      unfold Ieee.Format.nearest
      rw [if_neg (by omega), hL]
      simp only [dL, dB, dF, dI]
      rw [hlast]
      have t1 : ((0 : Int) - ((L : Int) - 52)).toNat = 52 - L := by omega
      have t2 : ((L : Int) - 52 - 0).toNat = 0 := by omega
      have t3 : ((L : Int) - 52 - -1074).toNat = L + 1022 := by omega
      rw [t1, t2, t3, Nat.shiftLeft_eq]
      generalize mag * 2 ^ (52 - L) = k at hk hr ⊢
      have t4 : Ieee.Toward.even.cut neg k 0 = k := by simp [Ieee.Toward.cut, Nat.mod_one]
      have t5 : min ((L + 1022) * 4503599627370496 + k) (2047 * 4503599627370496) = (L + 1023) * 4503599627370496 + r := rung_lem c hr hk.2
      exact (congrArg (fun z => FloatKind.f64.format.word neg (min ((L + 1022) * 4503599627370496 + z) (2047 * 4503599627370496))) t4).trans (congrArg (FloatKind.f64.format.word neg) t5)
    obtain ⟨r1, r2⟩ := read_word neg (L + 1023) r (by omega) (by omega) (by omega)
    have q1 : 4503599627370496 + r = mag * 2 ^ (52 - L) := hr.symm
    have q2 : -1074 + ((L + 1023 - 1 : Nat) : Int) = (L : Int) - 52 := by omega
    rw [q1, q2] at r1
    refine ⟨mag, mag * 2 ^ (52 - L), (L : Int) - 52, ?_, ?_, ?_, ?_, ?_, ?_, ?_, ?_, ?_⟩
    · rw [hn, r1]
    · rw [hn]; exact r2
    · left; refine ⟨by omega, ?_⟩
      have : (-((L : Int) - 52)).toNat = 52 - L := by omega
      rw [this]
    · refine ⟨mag, 0, by omega, ?_⟩
      have h53 : 2 ^ (L + 1) ≤ 2 ^ 53 := Nat.pow_le_pow_right (by decide) (by omega)
      exact Nat.le_of_lt (Nat.lt_of_lt_of_le l2 h53)
    · exact fun _ => rfl
    · exact h1
    · exact h2
    · omega
    · omega
  · -- it is cut
    obtain ⟨d, hd, hd1, hd2⟩ : ∃ d, L = 52 + d ∧ 1 ≤ d ∧ d ≤ 11 := ⟨L - 52, by clear l1 l2 hlast; omega, by clear l1 l2 hlast; omega, by clear l1 l2 hlast; omega⟩
    subst hd
    rw [pow_52d] at l1
    rw [pow_53d] at l2
    exact near_cut neg mag d h1 h2 hd1 hd2 l1 l2 hL
end Go.Proofs.Ytaimobfakcompaa.Zz
