/- Ranges over texts. -/
import Derived.Test.YtpagdhbmbnoddaaGreatDoorZC0
import Derived.Laws.RangeString
import Derived.Test.YtpagdhbmbnoddaaGreatDoorZN1
set_option linter.unnecessarySimpa false
set_option linter.unusedVariables false
set_option linter.unusedSimpArgs false
namespace Go.Proofs.YtpagdhbmbnoddaaGreatDoor.Zz
variable {T : Tab} {h : AHeap} {K E : D → AHeap → Prop}
theorem i_isNil_sl {neg : Bool} {xs : List (List D)} : vcI T (.isNil neg (.sl xs)) h K E = ((xs = [] → K (.bool (!neg)) h) ∧ K (.bool neg) h) := rfl
theorem i_callR {k : FuncId} {first cap args : List D} : vcI T (.callR (.func (.func k) first cap) args) h K E = T.c k (first ++ args ++ cap) h K E := rfl
theorem i_assert {t t' : TypeId} {ok : Bool} {z d : D} : vcI T (.typeAssert t ok z (.iface t' d)) h K E = (t' = t ∧ K (bif ok then .tuple [d, .bool true] else d) h) := rfl
theorem i_srange {s : List UInt8} : vcI T (.srange (.str s)) h K E = ∀ id, h.f id = none → K (.iter id) (h.set id (.siter s 0)) := rfl
def snx (id : Nat) (h : AHeap) (K : D → AHeap → Prop) : Option AObj → Prop
  | some (.siter s pos) => (pos < s.length → K (.tuple [.bool true, .int .i64 (pos : Int), .int .i32 ((Utf8.decode ⟨s.toArray⟩ pos).1 : Int)]) (h.set id (.siter s (pos + (Utf8.decode ⟨s.toArray⟩ pos).2)))) ∧ (s.length ≤ pos → K (.tuple [.bool false]) h)
  | _ => False
theorem i_snext {id : Nat} : vcI T (.snext (.iter id)) h K E = snx id h K (h.f id) := by
  show (match h.f id with | some (.siter s pos) => _ | _ => False) = _
  generalize h.f id = o
  cases o with
  | none => rfl
  | some o => cases o <;> rfl
theorem snx_siter {id : Nat} {s : List UInt8} {pos : Nat} : snx id h K (some (.siter s pos)) = ((pos < s.length → K (.tuple [.bool true, .int .i64 (pos : Int), .int .i32 ((Utf8.decode ⟨s.toArray⟩ pos).1 : Int)]) (h.set id (.siter s (pos + (Utf8.decode ⟨s.toArray⟩ pos).2)))) ∧ (s.length ≤ pos → K (.tuple [.bool false]) h)) := rfl
theorem decode_one {s : List UInt8} {pos : Nat} {c : UInt8} (hc : s[pos]? = some c) (h7 : c < 128) : Utf8.decode ⟨s.toArray⟩ pos = (c.toNat, 1) := by
  have hlt : pos < s.length := (List.getElem?_eq_some_iff.1 hc).1
  have e : (⟨s.toArray⟩ : ByteArray)[pos]'(by simpa [ByteArray.size] using hlt) = c := by
    have : s[pos] = c := (List.getElem?_eq_some_iff.1 hc).2
    exact this
  rw [decode_ascii (⟨s.toArray⟩ : ByteArray) pos (by simpa [ByteArray.size] using hlt) (by rw [e]; exact UInt8.lt_iff_toNat_lt.1 h7), e]
end Go.Proofs.YtpagdhbmbnoddaaGreatDoor.Zz
namespace Go.Proofs.YtpagdhbmbnoddaaGreatDoor.Zz
theorem fxB : FloatKind.f64.format.binade = 4503599627370496 := by decide
theorem fxI : FloatKind.f64.format.infRung = 2047 * 4503599627370496 := by decide
theorem fxS : FloatKind.f64.format.signWeight = 9223372036854775808 := by decide
theorem fxL : FloatKind.f64.format.leastPlace = -1074 := by decide
theorem fxF : FloatKind.f64.format.fractionBits = 52 := rfl
def fxN (m : Nat) : Nat := FloatKind.f64.format.nearest false m 0
theorem fx_min {L k : Nat} (c : L ≤ 52) (h : k < 9007199254740992) : min ((L + 1022) * 4503599627370496 + k) (2047 * 4503599627370496) = (L + 1022) * 4503599627370496 + k := by omega
theorem fx_near (m a : Nat) (h0 : 0 < m) (h : m < 9007199254740992) : FloatKind.f64.format.nearest false (m * 2 ^ a) (-(a : Int)) = (m.log2 + 1022) * 4503599627370496 + m * 2 ^ (52 - m.log2) ∧ 4503599627370496 ≤ m * 2 ^ (52 - m.log2) ∧ m * 2 ^ (52 - m.log2) < 9007199254740992 ∧ m.log2 ≤ 52 := by
  have l1 : 2 ^ m.log2 ≤ m := Nat.log2_self_le (by omega)
  have l2 : m < 2 ^ (m.log2 + 1) := Nat.lt_log2_self
  have l3 : m.log2 ≤ 52 := by
    rcases Nat.lt_or_ge 52 m.log2 with h' | h'
    · have := Nat.pow_le_pow_right (show 0 < 2 by decide) (show 53 ≤ m.log2 from h')
      omega
    · exact h'
  have hlg : (m * 2 ^ a).log2 = m.log2 + a := by
    rw [Nat.log2_eq_iff (by have := Nat.two_pow_pos a; exact Nat.ne_of_gt (Nat.mul_pos h0 this))]
    constructor
    · rw [Nat.pow_add]; exact Nat.mul_le_mul_right _ l1
    · rw [show m.log2 + a + 1 = m.log2 + 1 + a by omega, Nat.pow_add]; exact Nat.mul_lt_mul_of_pos_right l2 (Nat.two_pow_pos a)
  generalize hL : m.log2 = L at *
  have p1 : 2 ^ L * 2 ^ (52 - L) = 4503599627370496 := by rw [← Nat.pow_add, show L + (52 - L) = 52 by omega]
  have p2 : 2 ^ (L + 1) * 2 ^ (52 - L) = 9007199254740992 := by rw [← Nat.pow_add, show L + 1 + (52 - L) = 53 by omega]
  have k1 : 4503599627370496 ≤ m * 2 ^ (52 - L) := by rw [← p1]; exact Nat.mul_le_mul_right _ l1
  have k2 : m * 2 ^ (52 - L) < 9007199254740992 := by rw [← p2]; exact Nat.mul_lt_mul_of_pos_right l2 (Nat.two_pow_pos _)
  refine ⟨?_, k1, k2, l3⟩
  have hne : m * 2 ^ a ≠ 0 := Nat.ne_of_gt (Nat.mul_pos h0 (Nat.two_pow_pos a))
  unfold Ieee.Format.nearest
  rw [if_neg hne, hlg]
  simp only [fxL, fxB, fxF, fxI]
  have hlast : max (-(a : Int) + ((L + a : Nat) : Int) - ((52 : Nat) : Int)) (-1074) = (L : Int) - 52 := by omega
  rw [hlast]
  have t3 : ((L : Int) - 52 - -1074).toNat = L + 1022 := by omega
  rw [t3]
  have key : Ieee.Toward.even.cut false ((m * 2 ^ a) <<< (-(a : Int) - ((L : Int) - 52)).toNat) ((L : Int) - 52 - -(a : Int)).toNat = m * 2 ^ (52 - L) := by
    by_cases c : a ≤ 52 - L
    · have t1 : (-(a : Int) - ((L : Int) - 52)).toNat = 52 - L - a := by omega
      have t2 : ((L : Int) - 52 - -(a : Int)).toNat = 0 := by omega
      rw [t1, t2, Nat.shiftLeft_eq, Nat.mul_assoc, ← Nat.pow_add, show a + (52 - L - a) = 52 - L by omega]
      generalize m * 2 ^ (52 - L) = k
      simp [Ieee.Toward.cut, Nat.mod_one]
    · have t1 : (-(a : Int) - ((L : Int) - 52)).toNat = 0 := by omega
      have t2 : ((L : Int) - 52 - -(a : Int)).toNat = a - (52 - L) := by omega
      rw [t1, t2, Nat.shiftLeft_zero]
      obtain ⟨d, hd⟩ : ∃ d, a = 52 - L + d ∧ 0 < d := ⟨a - (52 - L), by omega, by omega⟩
      have e1 : m * 2 ^ a = m * 2 ^ (52 - L) * 2 ^ d := by rw [hd.1, Nat.pow_add, Nat.mul_assoc]
      have e2 : a - (52 - L) = d := by omega
      rw [e2]
      unfold Ieee.Toward.cut
      have e3 : min d ((m * 2 ^ a).log2 + 2) = d := by rw [hlg]; omega
      simp only [e3, Nat.one_shiftLeft]
      rw [e1, Nat.mul_div_cancel _ (Nat.two_pow_pos d), Nat.mul_mod_left]
      have h4 : ((2 ^ d == 2 * 0) = false) := by have := Nat.two_pow_pos d; simp
      have h5 : decide (2 ^ d < 2 * 0) = false := by simp
      rw [h4, h5]
      simp only [Bool.false_and, Bool.or_false, Bool.toNat_false, Nat.add_zero]
  rw [key]
  unfold Ieee.Format.word
  rw [if_neg (by decide)]
  exact fx_min l3 k2
theorem fx_scale (m a : Nat) (h : m < 9007199254740992) : FloatKind.f64.format.nearest false (m * 2 ^ a) (-(a : Int)) = fxN m := by
  by_cases h0 : m = 0
  · subst h0; simp [fxN, Ieee.Format.nearest]
  · have h1 := (fx_near m a (by omega) h).1
    have h2 := (fx_near m 0 (by omega) h).1
    rw [h1]
    unfold fxN
    simp only [Nat.pow_zero, Nat.mul_one, Int.natCast_zero, Int.neg_zero] at h2
    exact h2.symm
theorem fx_read (m : Nat) (h : m < 9007199254740992) : ∃ e : Nat, FloatKind.f64.format.read (fxN m) = .number false (m * 2 ^ e) (-(e : Int)) := by
  by_cases h0 : m = 0
  · subst h0
    have e0 : fxN 0 = 0 := by simp [fxN, Ieee.Format.nearest, Ieee.Format.word]
    have e1 : FloatKind.f64.format.read 0 = .number false 0 (-1074) := by decide
    obtain ⟨e, he⟩ : ∃ e : Nat, (-(e : Int)) = -1074 := ⟨1074, rfl⟩
    exact ⟨e, by rw [e0, e1, Nat.zero_mul, he]⟩
  · obtain ⟨h1, h2, h3, h4⟩ := fx_near m 0 (by omega) h
    simp only [Nat.pow_zero, Nat.mul_one, Int.natCast_zero, Int.neg_zero] at h1
    refine ⟨52 - m.log2, ?_⟩
    have e : fxN m = (m.log2 + 1022) * 4503599627370496 + m * 2 ^ (52 - m.log2) := h1
    rw [e]
    generalize m * 2 ^ (52 - m.log2) = k at h2 h3
    generalize m.log2 = L at h4
    unfold Ieee.Format.read
    simp only [fxS, fxB, fxI, fxL]
    have a1 : ((L + 1022) * 4503599627370496 + k) / 9223372036854775808 = 0 := by omega
    have a2 : ((L + 1022) * 4503599627370496 + k) % 9223372036854775808 = (L + 1022) * 4503599627370496 + k := by omega
    have a3 : ((L + 1022) * 4503599627370496 + k) % 4503599627370496 = k - 4503599627370496 := by omega
    have a4 : ((L + 1022) * 4503599627370496 + k) / 4503599627370496 = L + 1023 := by omega
    have b1 : 4503599627370496 + (k - 4503599627370496) = k := by omega
    have b2 : -1074 + ((L + 1023 - 1 : Nat) : Int) = -((52 - L : Nat) : Int) := by omega
    rw [a1, a2, a3, a4, if_neg (by omega), if_pos (by omega), b1, b2]
    rfl
theorem fx_mul (m n : Nat) (hm : m < 9007199254740992) (hn : n < 9007199254740992) (h : m * n < 9007199254740992) : floatBits .mul .f64 (fxN m) (fxN n) = some (fxN (m * n)) := by
  obtain ⟨e, h1⟩ := fx_read m hm
  obtain ⟨f, h2⟩ := fx_read n hn
  show FloatKind.f64.format.mul _ _ = _
  unfold Ieee.Format.mul
  rw [h1, h2]
  simp only [Ieee.Datum.product, Option.map_some, Ieee.Format.write, Bool.xor_self]
  have e1 : m * 2 ^ e * (n * 2 ^ f) = m * n * 2 ^ (e + f) := by rw [Nat.pow_add]; simp only [Nat.mul_assoc, Nat.mul_comm, Nat.mul_left_comm]
  have e2 : -(e : Int) + -(f : Int) = -((e + f : Nat) : Int) := by omega
  rw [e1, e2, fx_scale _ _ h]
theorem fx_add (m n : Nat) (hm : m < 9007199254740992) (hn : n < 9007199254740992) (h : m + n < 9007199254740992) : floatBits .add .f64 (fxN m) (fxN n) = some (fxN (m + n)) := by
  obtain ⟨e, h1⟩ := fx_read m hm
  obtain ⟨f, h2⟩ := fx_read n hn
  show FloatKind.f64.format.add _ _ = _
  unfold Ieee.Format.add
  rw [h1, h2]
  simp only [Ieee.Datum.sum, Option.map_some, Ieee.Format.write, Ieee.signed, Bool.false_eq_true, if_false, Nat.shiftLeft_eq]
  obtain ⟨g, hg, g1, g2⟩ : ∃ g : Nat, min (-(e : Int)) (-(f : Int)) = -(g : Int) ∧ e ≤ g ∧ f ≤ g := ⟨max e f, by omega, by omega, by omega⟩
  rw [hg]
  have t1 : (-(e : Int) - -(g : Int)).toNat = g - e := by omega
  have t2 : (-(f : Int) - -(g : Int)).toNat = g - f := by omega
  rw [t1, t2, Nat.mul_assoc, Nat.mul_assoc, ← Nat.pow_add, ← Nat.pow_add, show e + (g - e) = g by omega, show f + (g - f) = g by omega]
  have e1 : ((m * 2 ^ g : Nat) : Int) + ((n * 2 ^ g : Nat) : Int) = (((m + n) * 2 ^ g : Nat) : Int) := by rw [Nat.add_mul]; omega
  rw [e1]
  have e2 : ((((m + n) * 2 ^ g : Nat) : Int).natAbs) = (m + n) * 2 ^ g := Int.natAbs_natCast _
  rw [e2]
  have e3 : (if ((((m + n) * 2 ^ g : Nat) : Int) = 0) then (false && false) else decide ((((m + n) * 2 ^ g : Nat) : Int) < 0)) = false := by
    split
    · rfl
    · simp only [decide_eq_false_iff_not]; omega
  rw [e3, fx_scale _ _ h]
theorem fx_lt (mag : Nat) (p : Int) : FloatKind.f64.format.nearest false mag p ≤ 2047 * 4503599627370496 := by
  unfold Ieee.Format.nearest
  split
  · simp [Ieee.Format.word]
  · simp only [Ieee.Format.word, Bool.false_eq_true, if_false, fxI]
    exact Nat.min_le_right _ _
theorem fx_div (m n : Nat) (hm : m < 9007199254740992) (hn : n < 9007199254740992) (h0 : 0 < n) : ∃ r, floatBits .quo .f64 (fxN m) (fxN n) = some r ∧ r ≤ 2047 * 4503599627370496 := by
  obtain ⟨e, h1⟩ := fx_read m hm
  obtain ⟨f, h2⟩ := fx_read n hn
  show ∃ r, FloatKind.f64.format.div _ _ = some r ∧ _
  unfold Ieee.Format.div
  rw [h1, h2]
  have hne : ¬ (n * 2 ^ f = 0) := Nat.ne_of_gt (Nat.mul_pos h0 (Nat.two_pow_pos f))
  simp only [Ieee.Datum.quotient, if_neg hne, Option.map_some, Ieee.Format.write, Bool.xor_self]
  exact ⟨_, rfl, fx_lt _ _⟩
theorem fx_ten : fxN 10 = 4621819117588971520 := by decide
theorem fx_one : fxN 1 = 4607182418800017408 := by decide
theorem fx_nought : fxN 0 = 0 := by decide
theorem fx_int (n : Nat) : FloatKind.f64.nearest (n : Int) = fxN n := by
  have : FloatKind.f64.nearest (n : Int) = FloatKind.f64.format.nearest (decide ((n : Int) < 0)) (n : Int).natAbs 0 := rfl
  rw [this, show decide ((n : Int) < 0) = false by simp, Int.natAbs_natCast]
  rfl
end Go.Proofs.YtpagdhbmbnoddaaGreatDoor.Zz
namespace Go.Proofs.YtpagdhbmbnoddaaGreatDoor.Zz
def p27d : Plan := ⟨⟨[], [], [], [], [], []⟩, [], [], false⟩
def s27d : Stm :=
 .seq (.ops [⟨.mov (.c (.str [])), some 2, none, true⟩])
 (.seq (.ops [⟨.mov (.t 0), some 7, none, true⟩,
 ⟨.qcall (.f 88) [(.t 7), (.c (.str [46]))], some 8, none, false⟩,
 ⟨.mov (.t 8), some 6, none, true⟩,
 ⟨.extract (.t 6) 0, some 9, none, true⟩,
 ⟨.extract (.t 6) 1, some 10, none, true⟩,
 ⟨.extract (.t 6) 2, some 11, none, true⟩,
 ⟨.mov (.t 9), some 3, none, true⟩,
 ⟨.mov (.t 10), some 4, none, true⟩,
 ⟨.mov (.t 11), some 5, none, true⟩])
 (.seq (.ops [⟨.mov (.t 3), some 12, none, true⟩,
 ⟨.qcall (.f 89) [(.t 12), (.c (.str [48]))], some 13, none, false⟩,
 ⟨.mov (.t 4), some 14, none, true⟩,
 ⟨.qcall (.f 90) [(.t 14), (.c (.str [48]))], some 15, none, false⟩,
 ⟨.mov (.t 13), some 3, none, true⟩,
 ⟨.mov (.t 15), some 4, none, true⟩])
 (.seq (.seq (.ops [⟨.mov (.t 3), some 16, none, true⟩,
 ⟨.bin .eql (.t 16) (.c (.str [])), some 17, none, true⟩])
 (.cond (.t 17)
 (.ops [⟨.mov (.c (.str [48])), some 3, none, true⟩])
 (.skip)))
 (.seq (.seq (.ops [⟨.mov (.t 4), some 18, none, true⟩,
 ⟨.bin .eql (.t 18) (.c (.str [])), some 19, none, true⟩])
 (.cond (.t 19)
 (.ops [⟨.mov (.c (.str [48])), some 4, none, true⟩])
 (.skip)))
 (.seq (.ops [⟨.mov (.t 3), some 20, none, true⟩,
 ⟨.bin .add (.t 20) (.c (.str [46])), some 21, none, true⟩,
 ⟨.mov (.t 4), some 22, none, true⟩,
 ⟨.bin .add (.t 21) (.t 22), some 23, none, true⟩,
 ⟨.mov (.t 23), some 2, none, true⟩])
 (.ret))))))
theorem st27d : stmOf Tryz.prog 66 p27d = some (s27d, [.tmp 2], 24) := by kernel_rfl
def p30d : Plan := ⟨⟨[], [], [], [], [], []⟩, [], [], false⟩
def s30d : Stm :=
 .seq (.ops [⟨.mov (.c (.int .i64 0)), some 2, none, true⟩])
 (.seq (.ops [⟨.mov (.t 0), some 11, none, true⟩,
 ⟨.qcall (.f 88) [(.t 11), (.c (.str [46]))], some 12, none, false⟩,
 ⟨.mov (.t 12), some 10, none, true⟩,
 ⟨.extract (.t 10) 0, some 13, none, true⟩,
 ⟨.extract (.t 10) 1, some 14, none, true⟩,
 ⟨.extract (.t 10) 2, some 15, none, true⟩,
 ⟨.mov (.t 13), some 3, none, true⟩,
 ⟨.mov (.t 14), some 4, none, true⟩,
 ⟨.mov (.t 15), some 5, none, true⟩])
 (.seq (.ops [⟨.mov (.c (.float .f64 0)), some 6, none, true⟩,
 ⟨.mov (.c (.float .f64 4607182418800017408)), some 7, none, true⟩])
 (.seq (.seq (.ops [⟨.mov (.t 3), some 16, none, true⟩,
 ⟨.mov (.t 4), some 17, none, true⟩,
 ⟨.bin .add (.t 16) (.t 17), some 18, none, true⟩,
 ⟨.srange (.t 18), some 19, none, false⟩])
 (.block 0 (.loop (.seq (.ops [⟨.snext (.t 19), some 20, none, false⟩,
 ⟨.extract (.t 20) 0, some 21, none, true⟩])
 (.seq (.cond (.t 21)
 (.skip)
 (.exit 0))
 (.block 1 (.seq (.ops [⟨.extract (.t 20) 2, some 22, none, true⟩,
 ⟨.mov (.t 22), some 9, none, true⟩])
 (.ops [⟨.mov (.t 6), some 23, none, true⟩,
 ⟨.farith .mul (.t 23) (.c (.float .f64 4621819117588971520)), some 24, none, false⟩,
 ⟨.mov (.t 9), some 25, none, true⟩,
 ⟨.bin .sub (.t 25) (.c (.int .i32 48)), some 26, none, true⟩,
 ⟨.conv .intFloat (.t 26), some 27, none, true⟩,
 ⟨.farith .add (.t 24) (.t 27), some 28, none, false⟩,
 ⟨.mov (.t 28), some 6, none, true⟩]))))))))
 (.seq (.seq (.ops [⟨.mov (.t 4), some 29, none, true⟩,
 ⟨.len .str (.t 29), some 30, none, false⟩,
 ⟨.mov (.c (.int .i64 0)), some 31, none, true⟩])
 (.block 2 (.loop (.seq (.ops [⟨.bin .lss (.t 31) (.t 30), some 32, none, true⟩])
 (.seq (.cond (.t 32)
 (.skip)
 (.exit 2))
 (.seq (.block 3 (.ops [⟨.mov (.t 7), some 33, none, true⟩,
 ⟨.farith .mul (.t 33) (.c (.float .f64 4621819117588971520)), some 34, none, false⟩,
 ⟨.mov (.t 34), some 7, none, true⟩]))
 (.ops [⟨.bin .add (.t 31) (.c (.int .i64 1)), some 35, none, true⟩,
 ⟨.mov (.t 35), some 31, none, true⟩])))))))
 (.seq (.ops [⟨.mov (.t 6), some 36, none, true⟩,
 ⟨.mov (.t 7), some 37, none, true⟩,
 ⟨.farith .quo (.t 36) (.t 37), some 38, none, false⟩,
 ⟨.qcall (.f 84) [(.t 38)], some 39, none, false⟩,
 ⟨.conv (.intInt .i64) (.t 39), some 40, none, true⟩,
 ⟨.mov (.t 40), some 2, none, true⟩])
 (.ret))))))
theorem st30d : stmOf Tryz.prog 67 p30d = some (s30d, [.tmp 2], 41) := by kernel_rfl
def p31d : Plan := ⟨⟨[], [], [], [], [], []⟩, [], [], false⟩
def s31d : Stm :=
 .seq (.ops [⟨.alloc [(.int .i64 0), (.int .i64 0), (.str []), (.int .i64 0), .nilsl], some 2, none, false⟩])
 (.seq (.ops [⟨.mov (.t 0), some 3, none, true⟩,
 ⟨.qcall (.f 66) [(.t 3)], some 4, none, false⟩,
 ⟨.mov (.t 0), some 5, none, true⟩,
 ⟨.qcall (.f 66) [(.t 5)], some 6, none, false⟩,
 ⟨.qcall (.f 67) [(.t 6)], some 7, none, false⟩,
 ⟨.build [(.int .i64 0), (.int .i64 0), (.str []), (.int .i64 0), .nilsl] [(0, 1, (.c (.int .i64 21))), (1, 1, (.c (.int .i64 2))), (2, 1, (.t 4)), (3, 1, (.t 7))], some 8, none, true⟩,
 ⟨.store 5 (.t 2) (.t 8), none, none, false⟩])
 (.ret))
theorem st31d : stmOf Tryz.prog 39 p31d = some (s31d, [.cell 2 (some 5)], 9) := by kernel_rfl
def q49d : List D → Option D
  | [.str s, .str t] => if s.length < 4294967281 then some (.tuple [.str (Lib.cut s t).1, .str (Lib.cut s t).2.1, .bool (Lib.cut s t).2.2]) else none
  | _ => none
theorem q49d_ok (args : List D) (d : D) (h : q49d args = some d) : PCall Tryz.prog 88 args d := by
  unfold q49d at h
  split at h
  · split at h
    · cases h; exact cut_c _ _ (by assumption)
    · cases h
  · cases h
theorem trimL_c' (s t : List UInt8) (h : t = [48]) : PCall Tryz.prog 89 [.str s, .str t] (.str (Lib.trimLeftB s 48)) := by subst h; exact trimL_c s
theorem trimR_c' (s t : List UInt8) (h : t = [48]) : PCall Tryz.prog 90 [.str s, .str t] (.str (Lib.trimRightB s 48)) := by subst h; exact trimR_c s
def q50d : List D → Option D
  | [.str s, .str t] => if t = [48] then some (.str (Lib.trimLeftB s 48)) else none
  | _ => none
theorem q50d_ok (args : List D) (d : D) (h : q50d args = some d) : PCall Tryz.prog 89 args d := by
  unfold q50d at h
  split at h
  · split at h
    · cases h; exact trimL_c' _ _ (by assumption)
    · cases h
  · cases h
def q51d : List D → Option D
  | [.str s, .str t] => if t = [48] then some (.str (Lib.trimRightB s 48)) else none
  | _ => none
theorem q51d_ok (args : List D) (d : D) (h : q51d args = some d) : PCall Tryz.prog 90 args d := by
  unfold q51d at h
  split at h
  · split at h
    · cases h; exact trimR_c' _ _ (by assumption)
    · cases h
  · cases h
theorem ext52 : extOk Tryz.prog 84 "math.Float64bits" = true := by kernel_rfl
def tb49d : Tab := Tab.zero.addQ 88 q49d
theorem tb49d_q (g : FuncId) (args : List D) : tb49d.q g args = if g = 88 then q49d args else Tab.zero.q g args := rfl
theorem tb49d_a : tb49d.a = Tab.zero.a := rfl
theorem tb49d_c : tb49d.c = Tab.zero.c := rfl
theorem tb49d_ok : tb49d.ok Tryz.prog := Tab.addQ_ok (Tab.zero_ok _) q49d_ok
theorem tb49d_e : type_of% (And.intro @tb49d_q (And.intro @tb49d_a @tb49d_c)) := (And.intro @tb49d_q (And.intro @tb49d_a @tb49d_c))
def tb50d : Tab := tb49d.addQ 89 q50d
theorem tb50d_q (g : FuncId) (args : List D) : tb50d.q g args = if g = 89 then q50d args else tb49d.q g args := rfl
theorem tb50d_a : tb50d.a = tb49d.a := rfl
theorem tb50d_c : tb50d.c = tb49d.c := rfl
theorem tb50d_ok : tb50d.ok Tryz.prog := Tab.addQ_ok tb49d_ok q50d_ok
theorem tb50d_e : type_of% (And.intro (And.intro @tb50d_q (And.intro @tb50d_a @tb50d_c)) @tb49d_e) := (And.intro (And.intro @tb50d_q (And.intro @tb50d_a @tb50d_c)) @tb49d_e)
def tb51d : Tab := tb50d.addQ 90 q51d
theorem tb51d_q (g : FuncId) (args : List D) : tb51d.q g args = if g = 90 then q51d args else tb50d.q g args := rfl
theorem tb51d_a : tb51d.a = tb50d.a := rfl
theorem tb51d_c : tb51d.c = tb50d.c := rfl
theorem tb51d_ok : tb51d.ok Tryz.prog := Tab.addQ_ok tb50d_ok q51d_ok
theorem tb51d_e : type_of% (And.intro (And.intro @tb51d_q (And.intro @tb51d_a @tb51d_c)) @tb50d_e) := (And.intro (And.intro @tb51d_q (And.intro @tb51d_a @tb51d_c)) @tb50d_e)
def tb52d : Tab := tb51d.addQ 84 xBits
theorem tb52d_q (g : FuncId) (args : List D) : tb52d.q g args = if g = 84 then xBits args else tb51d.q g args := rfl
theorem tb52d_a : tb52d.a = tb51d.a := rfl
theorem tb52d_c : tb52d.c = tb51d.c := rfl
theorem tb52d_ok : tb52d.ok Tryz.prog := Tab.addX_ok tb51d_ok (xBits_ok ext52)
theorem tb52d_e : type_of% (And.intro (And.intro @tb52d_q (And.intro @tb52d_a @tb52d_c)) @tb51d_e) := (And.intro (And.intro @tb52d_q (And.intro @tb52d_a @tb52d_c)) @tb51d_e)
def orZero (l : List UInt8) : List UInt8 := if (l == []) = true then [48] else l
theorem orZero_t {l : List UInt8} (h : (l == []) = true) : orZero l = [48] := if_pos h
theorem orZero_f {l : List UInt8} (h : (l == []) = false) : orZero l = l := if_neg (by simp [h])
def digF (s : List UInt8) : List UInt8 := orZero (Lib.trimLeftB (Lib.cut s [46]).1 48) ++ [46] ++ orZero (Lib.trimRightB (Lib.cut s [46]).2.1 48)
theorem trimL_len (l : List UInt8) (c : UInt8) : (Lib.trimLeftB l c).length ≤ l.length := len_dropWhile _ l
theorem trimR_len (l : List UInt8) (c : UInt8) : (Lib.trimRightB l c).length ≤ l.length := by
  have := len_dropWhile (fun b => b == c) l.reverse
  simp only [Lib.trimRightB, List.length_reverse] at this ⊢
  exact this
theorem cut_len (s t : List UInt8) : (Lib.cut s t).1.length ≤ s.length ∧ (Lib.cut s t).2.1.length ≤ s.length := by
  unfold Lib.cut
  split <;> simp <;> omega
theorem digits_c (s : List UInt8) (h : s.length < 4294967281) : PCall Tryz.prog 66 [.str s] (.str (digF s)) := by
  refine PCall.run tb52d_ok st27d (by simp) fun E => ?_
  have l1 := cut_len s [46]
  have l2 := trimL_len (Lib.cut s [46]).1 48
  have l3 := trimR_len (Lib.cut s [46]).2.1 48
  unfold digF
  cases c1d : (Lib.trimLeftB (Lib.cut s [46]).1 48 == []) <;> cases c2d : (Lib.trimRightB (Lib.cut s [46]).2.1 48 == []) <;>
    simp only [s27d, h, c1d, c2d, q49d, q50d, q51d, orZero_t, orZero_f, tb52d_e, zzK, seval] <;> (try simp only [List.length_cons, List.length_nil, List.length_append]) <;> (repeat' first | omega | trivial | refine And.intro ?_ ?_)
def valF (l : List UInt8) : Nat := l.foldl (fun n c => n * 10 + (c.toNat - 48)) 0
def isDig (c : UInt8) : Bool := decide (48 ≤ c.toNat) && decide (c.toNat ≤ 57)
theorem valF_snoc (l : List UInt8) (c : UInt8) : valF (l ++ [c]) = valF l * 10 + (c.toNat - 48) := by simp [valF]
theorem valF_lt (l : List UInt8) : l.all isDig = true → valF l < 10 ^ l.length := by
  intro h
  have key : ∀ (l : List UInt8) (n k : Nat), l.all isDig = true → n < 10 ^ k → l.foldl (fun n c => n * 10 + (c.toNat - 48)) n < 10 ^ (k + l.length) := by
    intro l
    induction l with
    | nil => intro n k _ h; exact h
    | cons c l ih =>
      intro n k ha hn
      simp only [List.all_cons, Bool.and_eq_true] at ha
      have hc : c.toNat - 48 ≤ 9 := by have := ha.1; simp [isDig] at this; omega
      have := ih (n * 10 + (c.toNat - 48)) (k + 1) ha.2 (by rw [Nat.pow_succ]; omega)
      rw [List.foldl_cons, List.length_cons, show k + (l.length + 1) = k + 1 + l.length by omega]
      exact this
  have := key l 0 0 h (by decide)
  rw [Nat.zero_add] at this
  exact this
theorem valF_53 {l : List UInt8} (h : l.all isDig = true) (hl : l.length ≤ 15) : valF l < 1000000000000000 := by
  have h1 := valF_lt l h
  have h2 := Nat.pow_le_pow_right (show 0 < 10 by decide) hl
  have h3 : (10 : Nat) ^ 15 = 1000000000000000 := by decide
  omega
def quoF (m n : Nat) : Nat := (floatBits .quo .f64 (fxN m) (fxN n)).getD 0
theorem quoF_eq {m n : Nat} (hm : m < 9007199254740992) (hn : n < 9007199254740992) (h0 : 0 < n) : floatBits .quo .f64 (fxN m) (fxN n) = some (quoF m n) ∧ quoF m n ≤ 2047 * 4503599627370496 := by
  obtain ⟨r, h1, h2⟩ := fx_div m n hm hn h0
  unfold quoF
  rw [h1]
  exact ⟨rfl, h2⟩
def bitsF (s : List UInt8) : Int := IntKind.i64.wrap (quoF (valF ((Lib.cut s [46]).1 ++ (Lib.cut s [46]).2.1)) (10 ^ (Lib.cut s [46]).2.1.length) : Nat)
theorem pow10_le {n : Nat} (h : n ≤ 15) : (10 : Nat) ^ n ≤ 1000000000000000 := by
  have h2 := Nat.pow_le_pow_right (show 0 < 10 by decide) h
  have h3 : (10 : Nat) ^ 15 = 1000000000000000 := by decide
  omega
theorem bits_c (s : List UInt8) (h : s.length < 4294967281) (hd : ((Lib.cut s [46]).1 ++ (Lib.cut s [46]).2.1).all isDig = true) (hl : ((Lib.cut s [46]).1 ++ (Lib.cut s [46]).2.1).length ≤ 15) : PCall Tryz.prog 67 [.str s] (.int .i64 (bitsF s)) := by
  refine PCall.run tb52d_ok st30d (by simp) fun E => ?_
  unfold bitsF
  simp only [s30d, h, q49d, tb52d_e, zzK, seval]
  generalize (Lib.cut s [46]).1 = A at *
  generalize (Lib.cut s [46]).2.1 = B at *
  rw [List.length_append] at hl
  refine ⟨by omega, ?_⟩
  intro id
  simp only [i_srange, zzK, seval]
  have hlt : ∀ i c, (A ++ B)[i]? = some c → isDig c = true := fun i c hc => by
    rw [List.all_eq_true] at hd
    exact hd c (List.mem_of_getElem? hc)
  have v15 := valF_53 hd (by rw [List.length_append]; omega)
  have vle : ∀ i, valF ((A ++ B).take i) < 1000000000000000 := fun i => valF_53 (by
    rw [List.all_eq_true] at hd ⊢
    exact fun x hx => hd x (List.mem_of_mem_take hx)) (by rw [List.length_take, List.length_append]; omega)
  generalize hS : A ++ B = S at *
  have hSl : S.length = A.length + B.length := by rw [← hS, List.length_append]
  refine run_loop (X := Nat) (fun i => [(4, .str B), (6, .float .f64 (fxN (valF (S.take i)))), (7, .float .f64 (fxN 1)), (19, .iter id)]) (fun i => AHeap.emp.set id (.siter S i)) (fun i => S.length - i) (fun i => i ≤ S.length) 0 (Nat.zero_le _) ?_ (AHeap.sub_refl _) ?_
  · have v0 : fxN (valF []) = 0 := fx_nought
    simp only [fx_one, v0, List.take_zero, zzK, seval]
  · intro i Q hi hQ
    by_cases c : i < S.length
    · obtain ⟨x, hx⟩ : ∃ x, S[i]? = some x := ⟨_, List.getElem?_eq_getElem c⟩
      have hxd := hlt i x hx
      have hx1 : 48 ≤ x.toNat ∧ x.toNat ≤ 57 := by simpa [isDig] using hxd
      have e1 := decode_one hx (UInt8.lt_iff_toNat_lt.2 (Nat.lt_of_le_of_lt hx1.2 (by decide)))
      have e2 : IntKind.i32.wrap ((x.toNat : Int) - 48) = ((x.toNat - 48 : Nat) : Int) := by
        simp [IntKind.wrap, IntKind.bits, IntKind.signed]
        split <;> omega
      have tk : S.take (i + 1) = S.take i ++ [x] := by
        rw [List.take_add_one, hx]; rfl
      have hv : valF (S.take i) * 10 + (x.toNat - 48) = valF (S.take (i + 1)) := by rw [tk, valF_snoc]
      have v1 := vle (i + 1)
      have m1 := fx_mul (valF (S.take i)) 10 (by omega) (by decide) (by omega)
      rw [fx_ten] at m1
      have m2 := fx_add (valF (S.take i) * 10) (x.toNat - 48) (by omega) (by omega) (by omega)
      rw [hv] at m2
      have c1d : (i < S.length) = True := eq_true c
      have c2d : (S.length ≤ i) = False := eq_false (by omega)
      simp only [i_snext, snx_siter, c1d, c2d, e1, e2, fx_int, m1, m2, true_implies, false_implies, and_true, tb52d_e, zzK, seval]
      refine hQ (i + 1) _ _ (by omega) (by simp only [zzK, seval]) ?_ (by omega)
      exact AHeap.sub_X (by repeat' first | with_reducible exact AHeap.subX_refl | with_reducible exact AHeap.subX_emp | refine AHeap.subX_l (by simp []) ?_ | refine AHeap.subX_r (by simp []) ?_)
    · have e0 : i = S.length := by omega
      subst e0
      have c1d : (S.length < S.length) = False := eq_false (by omega)
      have hlB : B.length ≤ 15 := by omega
      have tk : S.take S.length = S := List.take_length
      simp only [i_snext, snx_siter, c1d, tk, Nat.le_refl, true_implies, false_implies, true_and, tb52d_e, zzK, seval]
      intro _
      refine run_loop (X := Nat) (fun i => [(6, .float .f64 (fxN (valF S))), (7, .float .f64 (fxN (10 ^ i))), (30, .int .i64 B.length), (31, .int .i64 i)]) (fun i => .emp) (fun i => B.length - i) (fun i => i ≤ B.length) 0 (Nat.zero_le _) ?_ sub_emp ?_
      · simp only [Nat.pow_zero, zzK, seval]
      · intro i Q hi hQ
        by_cases c : i < B.length
        · have g : ((i : Int) < (B.length : Int)) = True := eq_true (by omega)
          have p1d := pow10_le (n := i) (by omega)
          have p2d := pow10_le (n := i + 1) (by omega)
          rw [Nat.pow_succ] at p2d
          have m1 := fx_mul (10 ^ i) 10 (by omega) (by decide) (by omega)
          rw [fx_ten, ← Nat.pow_succ] at m1
          have wi : IntKind.i64.wrap ((i : Int) + 1) = ((i + 1 : Nat) : Int) := wrap_succ (by omega)
          simp only [g, m1, wi, tb52d_e, zzK, seval]
          exact hQ (i + 1) _ _ (by omega) (by simp only [zzK, seval]) sub_emp (by omega)
        · have e0 : i = B.length := by omega
          subst e0
          have g : ((B.length : Int) < (B.length : Int)) = False := eq_false (by omega)
          obtain ⟨m1, m2⟩ := quoF_eq (m := valF S) (n := 10 ^ B.length) (by omega) (by have := pow10_le hlB; omega) (Nat.pow_pos (by decide))
          simp only [g, m1, xBits, tb52d_e, zzK, seval]
def q27d : List D → Option D
  | [.str s] => if s.length < 4294967281 then some (.str (digF s)) else none
  | _ => none
theorem q27d_ok (args : List D) (d : D) (h : q27d args = some d) : PCall Tryz.prog 66 args d := by
  unfold q27d at h
  split at h
  · split at h
    · cases h; exact digits_c _ (by assumption)
    · cases h
  · cases h
def q30d : List D → Option D
  | [.str s] => if s.length < 4294967281 ∧ ((Lib.cut s [46]).1 ++ (Lib.cut s [46]).2.1).all isDig = true ∧ ((Lib.cut s [46]).1 ++ (Lib.cut s [46]).2.1).length ≤ 15 then some (.int .i64 (bitsF s)) else none
  | _ => none
theorem q30d_ok (args : List D) (d : D) (h : q30d args = some d) : PCall Tryz.prog 67 args d := by
  unfold q30d at h
  split at h
  · split at h
    · cases h; exact bits_c _ (by rename_i h; exact h.1) (by rename_i h; exact h.2.1) (by rename_i h; exact h.2.2)
    · cases h
  · cases h
def tb27d : Tab := tb52d.addQ 66 q27d
theorem tb27d_q (g : FuncId) (args : List D) : tb27d.q g args = if g = 66 then q27d args else tb52d.q g args := rfl
theorem tb27d_a : tb27d.a = tb52d.a := rfl
theorem tb27d_c : tb27d.c = tb52d.c := rfl
theorem tb27d_ok : tb27d.ok Tryz.prog := Tab.addQ_ok tb52d_ok q27d_ok
theorem tb27d_e : type_of% (And.intro (And.intro @tb27d_q (And.intro @tb27d_a @tb27d_c)) @tb52d_e) := (And.intro (And.intro @tb27d_q (And.intro @tb27d_a @tb27d_c)) @tb52d_e)
def tb30d : Tab := tb27d.addQ 67 q30d
theorem tb30d_q (g : FuncId) (args : List D) : tb30d.q g args = if g = 67 then q30d args else tb27d.q g args := rfl
theorem tb30d_a : tb30d.a = tb27d.a := rfl
theorem tb30d_c : tb30d.c = tb27d.c := rfl
theorem tb30d_ok : tb30d.ok Tryz.prog := Tab.addQ_ok tb27d_ok q30d_ok
theorem tb30d_e : type_of% (And.intro (And.intro @tb30d_q (And.intro @tb30d_a @tb30d_c)) @tb27d_e) := (And.intro (And.intro @tb30d_q (And.intro @tb30d_a @tb30d_c)) @tb27d_e)
theorem index_dot : ∀ (A B : List UInt8), A.all isDig = true → Lib.index (A ++ ([46] ++ B)) [46] = A.length
  | [], B, _ => by simp [Lib.index]
  | a :: A, B, h => by
    simp only [List.all_cons, Bool.and_eq_true] at h
    have ih := index_dot A B h.2
    have h1 : (46 == a) = false := by
      have := h.1
      simp only [isDig, Bool.and_eq_true, decide_eq_true_eq] at this
      simp only [beq_eq_false_iff_ne]
      intro e
      rw [← e] at this
      exact absurd this.1 (by decide)
    rw [List.cons_append, Lib.index, ih]
    have h2 : (([46] : List UInt8).isPrefixOf (a :: (A ++ ([46] ++ B)))) = false := by simp [List.isPrefixOf, h1]
    have h3 : (((A.length : Int) == -1) = false) := by simp only [beq_eq_false_iff_ne]; omega
    rw [h2, h3]
    simp
theorem cut_dot (A B : List UInt8) (h : A.all isDig = true) : Lib.cut (A ++ [46] ++ B) [46] = (A, B, true) := by
  unfold Lib.cut
  rw [List.append_assoc, index_dot A B h, if_pos (by omega), Int.toNat_natCast]
  rw [List.take_left, ← List.append_assoc, List.drop_left' (by simp)]
theorem orZero_dig {l : List UInt8} (h : l.all isDig = true) : (orZero l).all isDig = true := by
  unfold orZero
  split
  · decide
  · exact h
theorem orZero_len (l : List UInt8) (n : Nat) (h : l.length ≤ n) (h1 : 1 ≤ n) : (orZero l).length ≤ n := by
  unfold orZero
  split
  · exact h1
  · exact h
theorem dropWhile_all (p q : UInt8 → Bool) (l : List UInt8) (h : l.all q = true) : (l.dropWhile p).all q = true := by
  rw [List.all_eq_true] at h ⊢
  exact fun x hx => h x ((List.dropWhile_sublist p).subset hx)
theorem trimL_dig {l : List UInt8} (c : UInt8) (h : l.all isDig = true) : (Lib.trimLeftB l c).all isDig = true := dropWhile_all _ _ _ h
theorem trimR_dig {l : List UInt8} (c : UInt8) (h : l.all isDig = true) : (Lib.trimRightB l c).all isDig = true := by
  unfold Lib.trimRightB
  rw [List.all_reverse]
  exact dropWhile_all _ _ _ (by rw [List.all_reverse]; exact h)
theorem digF_dot (A B : List UInt8) (h : A.all isDig = true) : digF (A ++ [46] ++ B) = orZero (Lib.trimLeftB A 48) ++ [46] ++ orZero (Lib.trimRightB B 48) := by
  unfold digF
  rw [cut_dot A B h]
structure Dotted (s A B : List UInt8) : Prop where
  eq : s = A ++ [46] ++ B
  a : A.all isDig = true
  b : B.all isDig = true
  a1 : 1 ≤ A.length
  b1 : 1 ≤ B.length
  len : A.length + B.length ≤ 15
theorem Dotted.dig {s A B : List UInt8} (h : Dotted s A B) : Dotted (digF s) (orZero (Lib.trimLeftB A 48)) (orZero (Lib.trimRightB B 48)) := by
  obtain ⟨rfl, a, b, a1, b1, l⟩ := h
  have l1 := orZero_len _ A.length (trimL_len A 48) a1
  have l2 := orZero_len _ B.length (trimR_len B 48) b1
  refine ⟨digF_dot A B a, orZero_dig (trimL_dig 48 a), orZero_dig (trimR_dig 48 b), ?_, ?_, by omega⟩
  · unfold orZero; split
    · exact Nat.le_refl _
    · rename_i h; cases e : Lib.trimLeftB A 48 with
      | nil => rw [e] at h; exact absurd rfl h
      | cons x l => simp
  · unfold orZero; split
    · exact Nat.le_refl _
    · rename_i h; cases e : Lib.trimRightB B 48 with
      | nil => rw [e] at h; exact absurd rfl h
      | cons x l => simp
theorem Dotted.onDig {s A B : List UInt8} (h : Dotted s A B) : q27d [.str s] = some (.str (digF s)) := by
  have : s.length < 4294967281 := by rw [h.eq]; simp only [List.length_append, List.length_cons, List.length_nil]; have := h.len; omega
  simp only [q27d]
  rw [if_pos this]
theorem Dotted.onBits {s A B : List UInt8} (h : Dotted s A B) : q30d [.str s] = some (.int .i64 (bitsF s)) := by
  have h1 : s.length < 4294967281 := by rw [h.eq]; simp only [List.length_append, List.length_cons, List.length_nil]; have := h.len; omega
  simp only [q30d]
  rw [if_pos]
  rw [h.eq] at h1 ⊢
  rw [cut_dot A B h.a]
  exact ⟨h1, by rw [List.all_append, h.a, h.b]; rfl, by rw [List.length_append]; exact h.len⟩
theorem Dotted.bits {s A B : List UInt8} (h : Dotted s A B) : bitsF s = IntKind.i64.wrap (quoF (valF (A ++ B)) (10 ^ B.length) : Nat) := by
  unfold bitsF
  rw [h.eq, cut_dot A B h.a]
theorem float_c (s A B : List UInt8) (h : Dotted s A B) : PCall Tryz.prog 39 [.str s] (.agg [.int .i64 21, .int .i64 2, .str (digF s), .int .i64 (bitsF (digF s)), .sl []]) := by
  refine PCall.run tb30d_ok st31d (by simp) fun E => ?_
  have h1 := h.onDig
  have h2 := h.dig.onBits
  simp only [s31d, h1, h2, tb30d_e, zzK, seval]
end Go.Proofs.YtpagdhbmbnoddaaGreatDoor.Zz
namespace Go.Proofs.YtpagdhbmbnoddaaGreatDoor.Zz
noncomputable section
structure PS where
  pos : Int
  nods : Int
  deep : Int
inductive PR (α : Type) where
  | ok (x : α) (s : PS)
  | fail (a e : Int)
  | out
end
variable {α β : Type}
def PR.bind (r : PR α) (k : α → PS → PR β) : PR β := match r with
  | .ok x s => k x s
  | .fail a e => .fail a e
  | .out => .out
def wpR (r : PR α) (K : α → PS → Prop) (E : Int → Int → Prop) : Prop := match r with
  | .ok x s => K x s
  | .fail a e => E a e
  | .out => False
theorem wpR_ok {x : α} {s : PS} {K : α → PS → Prop} {E : Int → Int → Prop} : wpR (.ok x s) K E = K x s := rfl
theorem wpR_fail {a e : Int} {K : α → PS → Prop} {E : Int → Int → Prop} : wpR (.fail a e) K E = E a e := rfl
theorem wpR_bind {r : PR α} {k : α → PS → PR β} {K : β → PS → Prop} {E : Int → Int → Prop} : wpR (r.bind k) K E = wpR r (fun x s => wpR (k x s) K E) E := by cases r <;> rfl
theorem wpR_mono {r : PR α} {K K' : α → PS → Prop} {E E' : Int → Int → Prop} (hk : ∀ x s, K x s → K' x s) (he : ∀ a e, E a e → E' a e) (h : wpR r K E) : wpR r K' E' := by
  cases r with
  | ok x s => exact hk _ _ h
  | fail a e => exact he _ _ h
  | out => exact h
section
variable (l : List Tok)
def pNow (s : PS) : Tok := l.getD s.pos.toNat (0, [], 0)
def pFail (e : Int) (s : PS) : PR α := .fail (pNow l s).2.2 e
def pIs (x : List UInt8) (s : PS) : Bool := (pNow l s).2.1 == x && ((pNow l s).1 == 5 || (pNow l s).1 == 4)
def pStep (s : PS) : PS := { s with pos := s.pos + 1 }
def pTake (x : List UInt8) (s : PS) : PR Bool := bif pIs l x s then .ok true (pStep s) else .ok false s
def pMust (x : List UInt8) (s : PS) : PR Unit := bif pIs l x s then .ok () (pStep s) else pFail l 110 s
def pName (s : PS) : PR (List UInt8) := bif (pNow l s).1 == 1 then .ok (pNow l s).2.1 (pStep s) else pFail l 110 s
def wInt : List UInt8 := [105, 110, 116]
def wFloat : List UInt8 := [102, 108, 111, 97, 116]
def wBool : List UInt8 := [98, 111, 111, 108]
def pTyp (s : PS) : PR Int := bif pIs l wInt s then .ok 1 (pStep s) else bif pIs l wFloat s then .ok 2 (pStep s) else bif pIs l wBool s then .ok 3 (pStep s) else pFail l 110 s
def pNode (n : Nd) (s : PS) : PR Nd := if s.nods + 1 > 2000 then pFail l 3 { s with nods := s.nods + 1 } else .ok n { s with nods := s.nods + 1 }
def pIn (s : PS) : PR Unit := if s.deep + 1 > 40 then pFail l 3 { s with deep := s.deep + 1 } else .ok () { s with deep := s.deep + 1 }
def pOff (r : PR α) : PR α := r.bind fun x s => .ok x { s with deep := s.deep - 1 }
def floatN (x : List UInt8) : Nd := .mk 21 0 (digF x) (bitsF (digF x)) []
def wTrue : List UInt8 := [116, 114, 117, 101]
def wFalse : List UInt8 := [102, 97, 108, 115, 101]
def pPlain (s : PS) : PR (Nd × Bool) :=
  let t := pNow l s
  let go (n : Nd) : PR (Nd × Bool) := (pNode l n (pStep s)).bind fun n s => .ok (n, true) s
  bif t.1 == 2 then go (.mk 20 0 [] (valF t.2.1 : Nat) [])
  else bif t.1 == 3 then go (floatN t.2.1)
  else bif pIs l wTrue s then go (.mk 22 0 [] 1 [])
  else bif pIs l wFalse s then go (.mk 22 0 [] 0 [])
  else .ok (.mk 0 0 [] 0 [], false) s
def Nd.kind : Nd → Int
  | .mk k _ _ _ _ => k
def Nd.setN (n : Nd) (v : Int) : Nd := match n with
  | .mk k t s _ l => .mk k t s v l
def Nd.num : Nd → Int
  | .mk _ _ _ n _ => n
def negB (n : Int) : Int := IntKind.i64.wrap ((Op.negFloat .f64 (IntKind.u64.wrap n).toNat : Nat) : Int)
def pLit (s : PS) : PR Nd := (pTake l [45] s).bind fun minus s => (pPlain l s).bind fun x s =>
  bif !x.2 || (minus && x.1.kind == 22) then pFail l 110 s
  else .ok (bif minus && x.1.kind == 20 then x.1.setN (IntKind.i64.wrap (0 - x.1.num)) else bif minus && x.1.kind == 21 then x.1.setN (negB x.1.num) else x.1) s
def rankF (s : List UInt8) : Int :=
  bif s == [124, 124] then 1 else bif s == [38, 38] then 2
  else bif s == [60] || s == [60, 61] || s == [62] || s == [62, 61] || s == [61, 61] || s == [33, 61] then 3
  else bif s == [43] || s == [45] then 4 else bif s == [42] || s == [47] || s == [37] then 5 else 0
end
end Go.Proofs.YtpagdhbmbnoddaaGreatDoor.Zz
namespace Go.Proofs.YtpagdhbmbnoddaaGreatDoor.Zz
variable {P : Program} {T : Tab} {κ : Kap} {h : AHeap} {w : World} {σ : Fr} {n : Nat} {a : Act}
inductive MRel (κ : Kap) (w : World) : Option D → FrameMode → Prop
  | ret : MRel κ w none .returning
  | pan {v : Value} {d : D} (r : Rep κ w v d) : MRel κ w (some d) (.panicking [{ v, recovered := false }])
theorem MRel.mono {κ κ' : Kap} {w w' : World} {u : Option D} {m : FrameMode} (r : MRel κ w u m) (le : Le κ w κ' w') : MRel κ' w' u m := by
  cases r with
  | ret => exact .ret
  | pan r => exact .pan (r.mono le)
def DCallsAt [Globs] (P : Program) (κ : Kap) (w : World) (k : FuncId) (args : List D) (u : Option D) (h : AHeap) (F : Option D → AHeap → Prop) : Prop :=
  callable P k = true ∧ ∀ (vs : Array Value) (m : FrameMode), Inv κ h w → RepL κ w vs.toList args → MRel κ w u m →
    CallsDIn (FW none) 0 P k vs m w fun e m' w' => ∃ v u' h' κ', e = .returned v ∧ F u' h' ∧ MRel κ' w' u' (settle m') ∧ Inv κ' h' w' ∧ Ev κ h w κ' h' w'
abbrev DTab := FuncId → List D → Option D → AHeap → (Option D → AHeap → Prop) → Prop
def DTab.none : DTab := fun _ _ _ _ _ => False
def DTab.okY [Globs] (P : Program) (κ : Kap) (w : World) (dc : DTab) : Prop := ∀ k args u h F, dc k args u h F → ∀ κ' w', Le κ w κ' w' → DCallsAt P κ' w' k args u h F
theorem DTab.none_ok [Globs] : DTab.none.okY P κ w := fun _ _ _ _ _ x => x.elim
def leav (dc : DTab) : List DDef → Option D → AHeap → (Option D → AHeap → Prop) → Prop
  | [], u, h, F => F u h
  | d :: ds, u, h, F => match d.fn with
    | .yield rd => h.f rd = some .dfr ∧ leav dc ds u (h.del rd) F
    | .func k => dc k (d.args ++ d.cap) u h (fun u' h' => leav dc ds u' h' F)
    | _ => False
def finD (rs : List ResI) (R : AOut → AHeap → Prop) (σ : Fr) (u : Option D) (h : AHeap) : Prop :=
  match u with
  | none => ∃ ds, evRes σ h rs = some ds ∧ ((∃ h', h'.sub h ∧ R (.ret (tup ds)) h') ∨ (∃ h', h'.sub (frzL h ds) ∧ R (.ret (tup (ds.map (plain h)))) h'))
  | some d => ∃ h', h'.sub h ∧ R (.panic d) h'
def retD (dc : DTab) (rs : List ResI) (R : AOut → AHeap → Prop) (e : Ex) (σ : Fr) (h : AHeap) : Prop :=
  match e with
  | .exit _ => False
  | _ => leav dc σ.defs none h (finD rs R σ)
def panD (dc : DTab) (rs : List ResI) (R : AOut → AHeap → Prop) (σ : Fr) (d : D) (h : AHeap) : Prop := leav dc σ.defs (some d) h (finD rs R σ)
theorem evRes_defs {ds : List DDef} : ∀ (rs : List ResI), evRes { σ with defs := ds } h rs = evRes σ h rs
  | [] => rfl
  | .tmp t :: l => by simp only [evRes, evRes_defs l]
  | .cell x k :: l => by simp only [evRes, evRes_defs l]
theorem leaves_sound [Globs] {dc : DTab} {fn : Func} {rs : List ResI} {R : AOut → AHeap → Prop} {σ : Fr} {tmps : Array Value} {κ0 : Kap} {h0 : AHeap} {w0 : World} (hi0 : Inv κ0 h0 w0) (hdc : dc.okY P κ0 w0) (hr : resI P fn.results.toList = some rs) :
    ∀ (ds : List DDef) (dv : List Deferred) (u : Option D) (m : FrameMode) (κ : Kap) (h : AHeap) (w : World), leav dc ds u h (finD rs R σ) → DefsRep κ w dv ds → Inv κ h w → MRel κ w u m → Ev κ0 h0 w0 κ h w → (∀ i, Rep κ w (tmps.getD i undef) (σ.env i)) →
      LeavesInM (FW none) 0 P fn tmps (fun e w' => ∃ o h' κ', R o h' ∧ OutRel κ' w' o e ∧ Inv κ' h' w' ∧ Ev κ0 h0 w0 κ' h' w') dv m w
  | [], dv, u, m, κ, h, w, hl, hd, hi, hm, ev, henv => by
    cases hd
    simp only [leav, finD] at hl
    cases hm with
    | ret =>
      obtain ⟨ds, k2, k3⟩ := hl
      have hp : Pre κ w { σ with defs := [] } tmps.size { tmps := tmps, defers := [] } := ⟨rfl, henv, .nil, hi.glob⟩
      obtain ⟨us, g1, g2⟩ := res_sound (P := P) hi hp hr (by rw [evRes_defs]; exact k2)
      refine ⟨_, g1, ?_⟩
      rcases k3 with ⟨h'', s1, s2⟩ | ⟨h'', s1, s2⟩
      · exact ⟨_, h'', κ, s2, .ret (rep_tup g2), hi.sub s1, ev.sub s1⟩
      · obtain ⟨κ'', i2, e2, r2⟩ := args_plain hi g2
        exact ⟨_, h'', κ'', s2, .ret (rep_tup r2), i2.sub s1, (ev.trans e2).sub s1⟩
    | pan r =>
      obtain ⟨h', s1, s2⟩ := hl
      exact ⟨.panic _, h', κ, s2, .panic r, hi.sub s1, ev.sub s1⟩
  | d :: ds, dv, u, m, κ, h, w, hl, hd, hi, hm, ev, henv => by
    cases hd with
    | cons hd1 hds =>
    have hmr : m ≠ .run := by cases hm <;> simp
    refine ⟨hmr, ?_⟩
    cases hd1 with
    | col h1 h2 h3 =>
      rename_i r id p
      simp only [leav] at hl
      obtain ⟨k1, k2⟩ := hl
      obtain ⟨p', q1, q2, q3, q4⟩ := hi.obj id _ k1
      rw [h1] at q1
      cases q1
      subst h3
      obtain ⟨i4, ev4⟩ := hi.putObj (o' := .other) (ob := .deferred none) k1 h1 rfl rfl ⟨q2, q3⟩
      have sub4 : (h.del id).sub (h.set id .other) := fun i o ho => by
        simp only [AHeap.del_f, AHeap.set_f] at ho ⊢
        split at ho
        · cases ho
        · rename_i hne; rw [if_neg hne]; exact ho
      have le4 := ev4.le hi
      exact .inl ⟨_, _, rfl, run_takeDeferred q4, leaves_sound hi0 hdc hr ds _ u m κ _ _ k2 (hds.mono le4) (i4.sub sub4) (hm.mono le4) ((ev.trans ev4).sub sub4) fun i => (henv i).mono le4⟩
    | mk hc ha =>
      rename_i k cap args dcap dargs
      simp only [leav] at hl
      obtain ⟨hcl, hcall⟩ := hdc _ _ _ _ _ hl κ w (ev.le hi0)
      refine .inr ⟨FW_deep, .func k, cap, k, args ++ cap, rfl, ?_, fun _ _ => trivial, ?_⟩
      · simp only [invoke, callFunc_run hcl]
      · refine CallsDIn.mono (hcall (args ++ cap) m hi (by rw [Array.toList_append]; exact ha.append hc) hm) ?_
        rintro e m' w' ⟨v, u', h', κ', rfl, k1, k2, k3, k4⟩
        have le4 := k4.le hi
        exact leaves_sound hi0 hdc hr ds _ u' (settle m') κ' h' w' k1 (hds.mono le4) k3 k2 (ev.trans k4) fun i => (henv i).mono le4
theorem ACallsAt.of_vcD [Globs] (hT : T.okY P κ w) {dc : DTab} (hdc : dc.okY P κ w) {f : FuncId} {fn : Func} {c : Code} {s : Stm} {pl : Plan} {rs : List ResI} {args : List D} {R : AOut → AHeap → Prop} (hf : P.funcs[f]? = some fn) (hb : fn.body = some c) (hcal : callable P f = true) (hc : comp P fn.ntmps pl c = some s) (hr : resI P fn.results.toList = some rs)
    (hn : args.length ≤ fn.ntmps) (hv : vc T s (retD dc rs R) (panD dc rs R) (argFr args) h) : ACallsAt P κ w f args h R := by
  refine ⟨hcal, fun vs hi hrep => callsIn_wide.1 (callsIn_of_wp_marks (F := FW none) (n := 0) hf hb trivial ?_)⟩
  have hp := args_pre hi hrep hn
  have key := vc_sound c s pl hc none (fun _ => rfl) κ h w hT hi _ _ κ h w _ _ hi hp (Ev.refl κ h w) hv
  refine wpIn_mono key fun e a' w' q => ?_
  cases e with
  | normal => obtain ⟨κ', h', σ', k, i', p', e'⟩ := q; exact leaves_sound hi hdc hr _ _ none _ κ' h' w' k p'.defs i' .ret e' p'.env
  | ret => obtain ⟨κ', h', σ', k, i', p', e'⟩ := q; exact leaves_sound hi hdc hr _ _ none _ κ' h' w' k p'.defs i' .ret e' p'.env
  | exit id => obtain ⟨κ', h', σ', k, _⟩ := q; exact k.elim
  | panic chain => obtain ⟨κ', h', d, v, σ', rfl, k, r, p', i', e'⟩ := q; exact leaves_sound hi hdc hr _ _ (some d) _ κ' h' w' k p'.defs i' (.pan r) e' p'.env
  | goto l => exact q.elim
  | outgrown => exact q.elim
theorem ACallsAt.of_stmD [Globs] (hT : T.okY P κ w) {dc : DTab} (hdc : dc.okY P κ w) {f : FuncId} {s : Stm} {rs : List ResI} {m : Nat} {pl : Plan} {args : List D} {R : AOut → AHeap → Prop} (hs : stmOf P f pl = some (s, rs, m)) (hn : args.length ≤ m) (hv : vc T s (retD dc rs R) (panD dc rs R) (argFr args) h) : ACallsAt P κ w f args h R := by
  unfold stmOf at hs
  split at hs
  · cases hs
  · rename_i fn hf
    split at hs
    · cases hs
    · rename_i c hb
      split at hs
      · rename_i s' rs' h1 h2 h3
        cases hs
        exact ACallsAt.of_vcD hT hdc hf hb h1 h2 h3 hn hv
      · cases hs
theorem ACalls.of_stmD [Globs] (hT : T.ok P) {dc : DTab} (hdc : ∀ κ w, dc.okY P κ w) {f : FuncId} {s : Stm} {rs : List ResI} {m : Nat} {pl : Plan} {args : List D} {R : AOut → AHeap → Prop} (hc : callable P f = true) (hs : stmOf P f pl = some (s, rs, m)) (hn : args.length ≤ m) (hv : vc T s (retD dc rs R) (panD dc rs R) (argFr args) h) : ACalls P f args h R :=
  ⟨hc, fun κ w => (ACallsAt.of_stmD (hT.toY κ w) (hdc κ w) hs hn hv).2⟩
theorem retD_ret {dc : DTab} {rs : List ResI} {R : AOut → AHeap → Prop} : retD dc rs R .ret σ h = leav dc σ.defs none h (finD rs R σ) := rfl
theorem retD_normal {dc : DTab} {rs : List ResI} {R : AOut → AHeap → Prop} : retD dc rs R .normal σ h = leav dc σ.defs none h (finD rs R σ) := rfl
theorem leav_nil {dc : DTab} {u : Option D} {F : Option D → AHeap → Prop} : leav dc [] u h F = F u h := rfl
theorem leav_func {dc : DTab} {k : FuncId} {c xs : List D} {ds : List DDef} {u : Option D} {F : Option D → AHeap → Prop} : leav dc (⟨.func k, c, xs⟩ :: ds) u h F = dc k (xs ++ c) u h (fun u' h' => leav dc ds u' h' F) := rfl
theorem ACallsAt.frame [Globs] {f : FuncId} {args : List D} {h1 : AHeap} {L : List (Nat × AObj)} {K : D → AHeap → Prop} (hL : ∀ p ∈ L, h1.f p.1 = none) (c : ACallsAt P κ w f args h1 fun o h' => ∃ d, o = .ret d ∧ ((∀ p ∈ L, h'.f p.1 = none) → K d (h'.puts L))) :
    ACallsAt P κ w f args (h1.puts L) fun o h' => ∃ d, o = .ret d ∧ K d h' := by
  refine ⟨c.1, fun vs hi hr => ?_⟩
  have sub := puts_sub hL
  refine (c.2 vs (hi.sub sub) hr).mono fun e w' ⟨o, h', κ', ⟨d, e1, k⟩, a2, a3, a4⟩ => ?_
  obtain ⟨f1, f2, f3⟩ := hi.frame sub a3 a4
  have dis : ∀ p ∈ L, h'.f p.1 = none := fun p hp => f3 p.1 (by
    obtain ⟨o', ho'⟩ := assoc_mem hp
    rw [puts_f, ho']; simp) (hL p hp)
  rw [puts_union hL dis] at f1 f2
  exact ⟨o, _, κ', ⟨d, e1, k dis⟩, a2, f1, f2⟩
theorem ACallsAt.of_K [Globs] (hT : T.okY P κ w) {f : FuncId} {s : Stm} {rs : List ResI} {m : Nat} {pl : Plan} {args : List D} {K : D → AHeap → Prop} (hs : stmOf P f pl = some (s, rs, m)) (hn : args.length ≤ m)
    (hv : vc T s (todo T (retS rs K) (fun _ _ _ => False) []) (fun _ _ _ => False) (argFr args) h) : ACallsAt P κ w f args h fun o h' => ∃ d, o = .ret d ∧ K d h' := by
  refine ACallsAt.of_stm hT hs hn (vc_mono (fun e σ h k => ?_) (fun ds d h k => k.elim) hv)
  cases e with
  | exit i => exact k
  | _ => obtain ⟨a, ds, b, c⟩ := k; exact ⟨a, ds, b, .inl ⟨h, AHeap.sub_refl h, _, rfl, c⟩⟩
def retU (rs : List ResI) (K : D → AHeap → Prop) (e : Ex) (σ : Fr) (h : AHeap) : Prop :=
  match e with
  | .exit _ => False
  | _ => σ.defs = [] ∧ ∃ ds, evRes σ h rs = some ds ∧ ∃ h', h'.sub h ∧ K (tup ds) h'
theorem retU_ret {rs : List ResI} {K : D → AHeap → Prop} : retU rs K .ret σ h = (σ.defs = [] ∧ ∃ ds, evRes σ h rs = some ds ∧ ∃ h', h'.sub h ∧ K (tup ds) h') := rfl
theorem ACallsAt.of_U [Globs] (hT : T.okY P κ w) {f : FuncId} {s : Stm} {rs : List ResI} {m : Nat} {pl : Plan} {args : List D} {K : D → AHeap → Prop} (hs : stmOf P f pl = some (s, rs, m)) (hn : args.length ≤ m)
    (hv : vc T s (todo T (retU rs K) (fun _ _ _ => False) []) (fun _ _ _ => False) (argFr args) h) : ACallsAt P κ w f args h fun o h' => ∃ d, o = .ret d ∧ K d h' := by
  refine ACallsAt.of_stm hT hs hn (vc_mono (fun e σ h k => ?_) (fun ds d h k => k.elim) hv)
  cases e with
  | exit i => exact k
  | _ => obtain ⟨a, ds, b, h', c, d⟩ := k; exact ⟨a, ds, b, .inl ⟨h', c, _, rfl, d⟩⟩
theorem ACalls.of_U [Globs] (hT : T.ok P) {f : FuncId} {s : Stm} {rs : List ResI} {m : Nat} {pl : Plan} {args : List D} {K : D → AHeap → Prop} (hs : stmOf P f pl = some (s, rs, m)) (hn : args.length ≤ m)
    (hv : vc T s (todo T (retU rs K) (fun _ _ _ => False) []) (fun _ _ _ => False) (argFr args) h) : ACalls P f args h fun o h' => ∃ d, o = .ret d ∧ K d h' := by
  refine ACalls.of_stm hT hs hn (vc_mono (fun e σ h k => ?_) (fun ds d h k => k.elim) hv)
  cases e with
  | exit i => exact k
  | _ => obtain ⟨a, ds, b, h', c, d⟩ := k; exact ⟨a, ds, b, .inl ⟨h', c, _, rfl, d⟩⟩
end Go.Proofs.YtpagdhbmbnoddaaGreatDoor.Zz
