/- The law of whole numbers as words. -/
import Derived.Test.YthpgepillaeldaaDoorZN1
import Derived.Test.YthpgepillaeldaaDoorZL4
namespace Go.Proofs.YthpgepillaeldaaDoor.Zz
set_option linter.unusedVariables false
set_option linter.unusedSimpArgs false
set_option maxRecDepth 20000
def p3n : Plan := ⟨⟨[], [], [], [], [], []⟩, []⟩
/-- cupel/cupellaw09.LexNumbers (1 parameters, 0 captured) -/
def s3n : Stm :=
  .seq (.ops [⟨.mov (.c (.bool false)), (some 2), none, true⟩])
  (.seq (.ops [⟨.mov (.t 0), (some 11), none, true⟩,
     ⟨.qcall (.f 8) [(.t 11), (.c (.int .i64 10))], (some 12), none, false⟩,
     ⟨.mov (.t 12), (some 3), none, true⟩])
  (.seq (.ops [⟨.mov (.t 3), (some 14), none, true⟩,
     ⟨.bin .add (.t 14) (.c (.str [59])), (some 15), none, true⟩,
     ⟨.qcall (.f 9) [(.t 15)], (some 16), none, false⟩,
     ⟨.mov (.t 16), (some 13), none, true⟩,
     ⟨.extract (.t 13) 0, (some 17), none, true⟩,
     ⟨.extract (.t 13) 1, (some 18), none, true⟩,
     ⟨.extract (.t 13) 2, (some 19), none, true⟩,
     ⟨.mov (.t 17), (some 4), none, true⟩,
     ⟨.mov (.t 18), (some 5), none, true⟩,
     ⟨.mov (.t 19), (some 6), none, true⟩])
  (.seq (.ops [⟨.mov (.t 3), (some 21), none, true⟩,
     ⟨.bin .add (.c (.str [48])) (.t 21), (some 22), none, true⟩,
     ⟨.qcall (.f 9) [(.t 22)], (some 23), none, false⟩,
     ⟨.mov (.t 23), (some 20), none, true⟩,
     ⟨.extract (.t 20) 0, (some 24), none, true⟩,
     ⟨.extract (.t 20) 1, (some 25), none, true⟩,
     ⟨.extract (.t 20) 2, (some 26), none, true⟩,
     ⟨.mov (.t 24), (some 7), none, true⟩,
     ⟨.mov (.t 25), (some 8), none, true⟩,
     ⟨.mov (.t 26), (some 9), none, true⟩])
  (.seq (.ops [⟨.mov (.t 0), (some 27), none, true⟩,
     ⟨.bin .leq (.t 27) (.c (.int .u64 9223372036854775807)), (some 28), none, true⟩,
     ⟨.mov (.t 28), (some 10), none, true⟩])
  (.seq (.seq (.ops [⟨.qcall (.f 10) [], (some 29), none, false⟩,
      ⟨.un .not (.t 29), (some 30), none, true⟩,
      ⟨.mov (.t 30), (some 31), none, true⟩,
      ⟨.mov (.t 6), (some 32), (some (31, false)), true⟩,
      ⟨.bin .eql (.t 32) (.c (.int .i64 0)), (some 33), (some (31, false)), true⟩,
      ⟨.mov (.t 10), (some 34), (some (31, false)), true⟩,
      ⟨.eql .bool true (.t 33) (.t 34), (some 35), (some (31, false)), true⟩,
      ⟨.pick (.t 31) (.c (.bool true)) (.t 35), (some 36), none, true⟩,
      ⟨.mov (.t 36), (some 37), none, true⟩,
      ⟨.mov (.t 9), (some 38), (some (37, false)), true⟩,
      ⟨.bin .neq (.t 38) (.c (.int .i64 90)), (some 39), (some (37, false)), true⟩,
      ⟨.pick (.t 37) (.c (.bool true)) (.t 39), (some 40), none, true⟩])
   (.cond (.t 40)
    (.seq (.ops [⟨.mov (.c (.bool false)), (some 2), none, true⟩])
     (.ret))
    (.skip)))
  (.seq (.seq (.ops [⟨.mov (.t 10), (some 41), none, true⟩,
      ⟨.un .not (.t 41), (some 42), none, true⟩])
   (.cond (.t 42)
    (.seq (.ops [⟨.mov (.t 5), (some 43), none, true⟩,
        ⟨.bin .eql (.t 43) (.c (.int .i64 0)), (some 44), none, true⟩,
        ⟨.mov (.t 44), (some 45), none, true⟩,
        ⟨.mov (.t 6), (some 46), (some (45, true)), true⟩,
        ⟨.bin .eql (.t 46) (.c (.int .i64 90)), (some 47), (some (45, true)), true⟩,
        ⟨.pick (.t 45) (.t 47) (.c (.bool false)), (some 48), none, true⟩,
        ⟨.mov (.t 48), (some 2), none, true⟩])
     (.ret))
    (.skip)))
  (.seq (.ops [⟨.mov (.t 4), (some 49), none, true⟩,
     ⟨.len .sl (.t 49), (some 50), none, false⟩,
     ⟨.bin .eql (.t 50) (.c (.int .i64 3)), (some 51), none, true⟩,
     ⟨.mov (.t 51), (some 52), none, true⟩,
     ⟨.mov (.t 4), (some 53), (some (52, true)), true⟩,
     ⟨.indexAddrS 3 (.t 53) (.c (.int .i64 0)), (some 54), (some (52, true)), false⟩,
     ⟨.fieldAddr 0 (.t 54), (some 55), (some (52, true)), true⟩,
     ⟨.load none (.t 55), (some 56), (some (52, true)), false⟩,
     ⟨.bin .eql (.t 56) (.c (.int .i64 2)), (some 57), (some (52, true)), true⟩,
     ⟨.pick (.t 52) (.t 57) (.c (.bool false)), (some 58), none, true⟩,
     ⟨.mov (.t 58), (some 59), none, true⟩,
     ⟨.mov (.t 4), (some 60), (some (59, true)), true⟩,
     ⟨.indexAddrS 3 (.t 60) (.c (.int .i64 0)), (some 61), (some (59, true)), false⟩,
     ⟨.fieldAddr 1 (.t 61), (some 62), (some (59, true)), true⟩,
     ⟨.load none (.t 62), (some 63), (some (59, true)), false⟩,
     ⟨.mov (.t 3), (some 64), (some (59, true)), true⟩,
     ⟨.bin .eql (.t 63) (.t 64), (some 65), (some (59, true)), true⟩,
     ⟨.pick (.t 59) (.t 65) (.c (.bool false)), (some 66), none, true⟩,
     ⟨.mov (.t 66), (some 67), none, true⟩,
     ⟨.mov (.t 4), (some 68), (some (67, true)), true⟩,
     ⟨.indexAddrS 3 (.t 68) (.c (.int .i64 1)), (some 69), (some (67, true)), false⟩,
     ⟨.fieldAddr 1 (.t 69), (some 70), (some (67, true)), true⟩,
     ⟨.load none (.t 70), (some 71), (some (67, true)), false⟩,
     ⟨.bin .eql (.t 71) (.c (.str [59])), (some 72), (some (67, true)), true⟩,
     ⟨.pick (.t 67) (.t 72) (.c (.bool false)), (some 73), none, true⟩,
     ⟨.mov (.t 73), (some 2), none, true⟩])
  (.ret))))))))
theorem st3n : stmOf Tryd.prog 3 p3n = some (s3n, [.tmp 2], 74) := by kernel_rfl

def p10n : Plan := ⟨⟨[], [], [], [], [], []⟩, []⟩
/-- cupel/cupellaw09.awake (0 parameters, 0 captured) -/
def s10n : Stm :=
  .seq (.ops [⟨.mov (.c (.bool false)), (some 0), none, true⟩])
  (.seq (.ops [⟨.qcall (.f 9) [(.c (.str [97, 58, 61, 49, 46, 53, 32, 47, 47, 32, 120]))], (some 5), none, false⟩,
     ⟨.mov (.t 5), (some 4), none, true⟩,
     ⟨.extract (.t 4) 0, (some 6), none, true⟩,
     ⟨.extract (.t 4) 1, (some 7), none, true⟩,
     ⟨.extract (.t 4) 2, (some 8), none, true⟩,
     ⟨.mov (.t 6), (some 1), none, true⟩,
     ⟨.mov (.t 7), (some 2), none, true⟩,
     ⟨.mov (.t 8), (some 3), none, true⟩])
  (.seq (.ops [⟨.mov (.t 3), (some 9), none, true⟩,
     ⟨.bin .eql (.t 9) (.c (.int .i64 0)), (some 10), none, true⟩,
     ⟨.mov (.t 10), (some 11), none, true⟩,
     ⟨.mov (.t 2), (some 12), (some (11, true)), true⟩,
     ⟨.bin .eql (.t 12) (.c (.int .i64 0)), (some 13), (some (11, true)), true⟩,
     ⟨.pick (.t 11) (.t 13) (.c (.bool false)), (some 14), none, true⟩,
     ⟨.mov (.t 14), (some 15), none, true⟩,
     ⟨.mov (.t 1), (some 16), (some (15, true)), true⟩,
     ⟨.len .sl (.t 16), (some 17), (some (15, true)), false⟩,
     ⟨.bin .eql (.t 17) (.c (.int .i64 4)), (some 18), (some (15, true)), true⟩,
     ⟨.pick (.t 15) (.t 18) (.c (.bool false)), (some 19), none, true⟩,
     ⟨.mov (.t 19), (some 20), none, true⟩,
     ⟨.mov (.t 1), (some 21), (some (20, true)), true⟩,
     ⟨.indexAddrS 3 (.t 21) (.c (.int .i64 0)), (some 22), (some (20, true)), false⟩,
     ⟨.fieldAddr 0 (.t 22), (some 23), (some (20, true)), true⟩,
     ⟨.load none (.t 23), (some 24), (some (20, true)), false⟩,
     ⟨.bin .eql (.t 24) (.c (.int .i64 1)), (some 25), (some (20, true)), true⟩,
     ⟨.pick (.t 20) (.t 25) (.c (.bool false)), (some 26), none, true⟩,
     ⟨.mov (.t 26), (some 27), none, true⟩,
     ⟨.mov (.t 1), (some 28), (some (27, true)), true⟩,
     ⟨.indexAddrS 3 (.t 28) (.c (.int .i64 1)), (some 29), (some (27, true)), false⟩,
     ⟨.fieldAddr 1 (.t 29), (some 30), (some (27, true)), true⟩,
     ⟨.load none (.t 30), (some 31), (some (27, true)), false⟩,
     ⟨.bin .eql (.t 31) (.c (.str [58, 61])), (some 32), (some (27, true)), true⟩,
     ⟨.pick (.t 27) (.t 32) (.c (.bool false)), (some 33), none, true⟩,
     ⟨.mov (.t 33), (some 34), none, true⟩,
     ⟨.mov (.t 1), (some 35), (some (34, true)), true⟩,
     ⟨.indexAddrS 3 (.t 35) (.c (.int .i64 2)), (some 36), (some (34, true)), false⟩,
     ⟨.fieldAddr 0 (.t 36), (some 37), (some (34, true)), true⟩,
     ⟨.load none (.t 37), (some 38), (some (34, true)), false⟩,
     ⟨.bin .eql (.t 38) (.c (.int .i64 3)), (some 39), (some (34, true)), true⟩,
     ⟨.pick (.t 34) (.t 39) (.c (.bool false)), (some 40), none, true⟩,
     ⟨.mov (.t 40), (some 41), none, true⟩,
     ⟨.mov (.t 1), (some 42), (some (41, true)), true⟩,
     ⟨.indexAddrS 3 (.t 42) (.c (.int .i64 3)), (some 43), (some (41, true)), false⟩,
     ⟨.fieldAddr 0 (.t 43), (some 44), (some (41, true)), true⟩,
     ⟨.load none (.t 44), (some 45), (some (41, true)), false⟩,
     ⟨.bin .eql (.t 45) (.c (.int .i64 0)), (some 46), (some (41, true)), true⟩,
     ⟨.pick (.t 41) (.t 46) (.c (.bool false)), (some 47), none, true⟩,
     ⟨.mov (.t 47), (some 0), none, true⟩])
  (.ret)))
theorem st10n : stmOf Tryd.prog 10 p10n = some (s10n, [.tmp 0], 48) := by kernel_rfl

theorem digs_succ (a n : Nat) : digs a (n + 1) = Lib.dg a n :: digs a n := by
  unfold digs
  rw [List.range_succ_eq_map, List.map_cons, List.map_map]
  congr 1
  apply List.map_congr_left
  intro t _
  simp only [Function.comp, Nat.succ_eq_add_one]
  congr 1
  omega
theorem dg_nat (a n : Nat) : (Lib.dg a n).toNat = 48 + a / 10 ^ n % 10 := by
  unfold Lib.dg
  rw [UInt8.toNat_ofNat']
  omega
theorem mod_succ (a n : Nat) : a % 10 ^ (n + 1) = a / 10 ^ n % 10 * 10 ^ n + a % 10 ^ n := by
  rw [Nat.pow_succ, Nat.mod_mul, Nat.mul_comm (10 ^ n) (a / 10 ^ n % 10), Nat.add_comm]
theorem cmp_lt {x y p u v : Nat} (hp : 0 < p) (hu : u < p) (hv : v < p) (h : x < y) : x * p + u < y * p + v := by
  have : (x + 1) * p ≤ y * p := Nat.mul_le_mul_right p h
  rw [Nat.add_mul] at this
  omega
theorem digs_less (a b : Nat) : ∀ n, Op.bytesLess (digs a n) (digs b n) = decide (a % 10 ^ n < b % 10 ^ n) ∧ (digs a n == digs b n) = decide (a % 10 ^ n = b % 10 ^ n) := by
  intro n
  induction n with
  | zero => simp [digs, Op.bytesLess, Nat.mod_one]
  | succ n ih =>
    rw [digs_succ, digs_succ, mod_succ a, mod_succ b]
    have hp : 0 < 10 ^ n := Nat.pow_pos (by omega)
    have ha := Nat.mod_lt a hp
    have hb := Nat.mod_lt b hp
    have na := dg_nat a n
    have nb := dg_nat b n
    generalize a / 10 ^ n % 10 = x at *
    generalize b / 10 ^ n % 10 = y at *
    generalize a % 10 ^ n = u at *
    generalize b % 10 ^ n = v at *
    generalize Lib.dg a n = c at *
    generalize Lib.dg b n = d at *
    have e : (c == d) = decide (x = y) := by
      by_cases h : x = y
      · have : c = d := UInt8.toNat_inj.mp (by omega)
        simp [h, this]
      · have : c ≠ d := fun h2 => h (by rw [h2] at na; omega)
        simp [h, this]
    have l : decide (c < d) = decide (x < y) := by
      simp only [decide_eq_decide, UInt8.lt_iff_toNat_lt]
      omega
    simp only [Op.bytesLess, List.cons_beq_cons, e, l, ih.1, ih.2]
    rcases Nat.lt_trichotomy x y with h | h | h
    · have := cmp_lt hp ha hb h
      have h1 : ¬ x = y := by omega
      have h2 : ¬ x * 10 ^ n + u = y * 10 ^ n + v := by omega
      simp [h, this, h1, h2]
    · subst h
      simp
    · have := cmp_lt hp hb ha h
      have h1 : ¬ x = y := by omega
      have h3 : ¬ x < y := by omega
      have h2 : ¬ x * 10 ^ n + u = y * 10 ^ n + v := by omega
      have h4 : ¬ x * 10 ^ n + u < y * 10 ^ n + v := by omega
      simp [h1, h2, h3, h4]
theorem mx_digs : mxL = digs 9223372036854775807 19 := by decide +kernel
theorem nDigits_ge : ∀ (k u : Nat), 10 ^ k ≤ u → k + 1 ≤ Lib.nDigits u
  | 0, u, _ => Lib.nDigits_pos u
  | k + 1, u, h => by
    have h10 : ¬ u < 10 := by
      have : 10 ^ 1 ≤ 10 ^ (k + 1) := Nat.pow_le_pow_right (by omega) (by omega)
      omega
    rw [Lib.nDigits_big h10]
    have := nDigits_ge k (u / 10) (by rw [Nat.le_div_iff_mul_le (by omega), ← Nat.pow_succ]; exact h)
    omega
theorem digits_first (u : Nat) (h : 1 ≤ u) : (Lib.decDigits u).getD 0 0 ≠ 48 := by
  rw [Lib.decDigits_eq]
  have hp := Lib.nDigits_pos u
  have hlt := Lib.lt_pow_nDigits u
  obtain ⟨n, hn⟩ : ∃ n, Lib.nDigits u = n + 1 := ⟨Lib.nDigits u - 1, by omega⟩
  have hge : 10 ^ n ≤ u := by
    by_cases c : 10 ^ n ≤ u
    · exact c
    · exfalso
      have hn1 : 1 ≤ n := by
        cases n with
        | zero => simp at c; omega
        | succ n => omega
      have := nDigits_le (n - 1) u (by rw [show n - 1 + 1 = n by omega]; omega)
      omega
  rw [hn] at hlt ⊢
  have e : (List.map (fun t => Lib.dg u (n + 1 - 1 - t)) (List.range (n + 1))).getD 0 0 = Lib.dg u n := by
    simp
  rw [e]
  intro h2
  have := congrArg UInt8.toNat h2
  rw [dg_nat] at this
  have h3 : 1 ≤ u / 10 ^ n := (Nat.le_div_iff_mul_le (Nat.pow_pos (by omega))).2 (by omega)
  have h4 : u / 10 ^ n < 10 := by
    rw [Nat.div_lt_iff_lt_mul (Nat.pow_pos (by omega))]
    rw [Nat.pow_succ] at hlt
    omega
  have h5 : (48 : UInt8).toNat = 48 := rfl
  omega
theorem whole_digits (u : Nat) (hu : u < 18446744073709551616) : wholeL (Lib.decDigits u) = decide (u ≤ 9223372036854775807) := by
  have hl := Lib.decDigits_length u
  have hf : (decide (1 < (Lib.decDigits u).length) && (((Lib.decDigits u).getD 0 0).toNat : Int) == 48) = false := by
    by_cases h : 1 ≤ u
    · have := digits_first u h
      have h2 : ¬ (((Lib.decDigits u).getD 0 0).toNat : Int) = 48 := fun h3 => this (UInt8.toNat_inj.mp (by
        have h5 : (48 : UInt8).toNat = 48 := rfl
        omega))
      have h4 : ((((Lib.decDigits u).getD 0 0).toNat : Int) == 48) = false := beq_eq_false_iff_ne.2 h2
      rw [h4, Bool.and_false]
    · have : u = 0 := by omega
      subst this
      rw [hl, Lib.nDigits_small (by omega)]
      simp
  unfold wholeL
  rw [hf, hl]
  by_cases c1n : u < 10 ^ 18
  · have h1 := nDigits_le 17 u c1n
    have h2 : Lib.nDigits u < 19 := by omega
    have h3 : ¬ 19 < Lib.nDigits u := by omega
    have h4 : u ≤ 9223372036854775807 := by omega
    simp [h2, h3, h4]
  · by_cases c2n : u < 10 ^ 19
    · have h1 : Lib.nDigits u = 19 := Lib.nDigits_unique 18 u (by omega) c2n
      have h2 : Lib.decDigits u = digs u 19 := by rw [Lib.decDigits_eq, h1]; rfl
      obtain ⟨e1, e2⟩ := digs_less u 9223372036854775807 19
      rw [h2, mx_digs, h1, e1, e2, Nat.mod_eq_of_lt c2n, Nat.mod_eq_of_lt (by omega)]
      by_cases c3n : u < 9223372036854775807
      · have : u ≤ 9223372036854775807 := by omega
        simp [c3n, this]
      · by_cases c4n : u = 9223372036854775807
        · subst c4n; decide
        · have : ¬ u ≤ 9223372036854775807 := by omega
          simp [c3n, c4n, this]
    · have h1 := nDigits_ge 19 u (by omega)
      have h3 : 19 < Lib.nDigits u := by omega
      have h4 : ¬ u ≤ 9223372036854775807 := by omega
      simp [h3, h4]
theorem digit_all (u : Nat) : ∀ c ∈ Lib.decDigits u, isDigit (c.toNat : Int) = true := by
  intro c hc
  rw [Lib.decDigits_eq] at hc
  obtain ⟨t, _, rfl⟩ := List.mem_map.1 hc
  rw [dg_nat]
  unfold isDigit
  have := Nat.mod_lt (u / 10 ^ (Lib.nDigits u - 1 - t)) (show 0 < 10 by omega)
  simp
  omega
theorem spn_all {p : Int → Bool} : ∀ (s t : List UInt8), (∀ c ∈ s, p (c.toNat : Int) = true) → spn p (s ++ t) = s.length + spn p t
  | [], t, _ => by simp
  | c :: s, t, h => by
    rw [List.cons_append, spn_cons, if_pos (h c (by simp)), spn_all s t fun d hd => h d (by simp [hd]), List.length_cons]
    omega
theorem blank_digit {c : UInt8} {t : List UInt8} (h : isDigit (c.toNat : Int) = true) : blankL (c :: t) = 0 := by
  unfold isDigit at h
  simp at h
  have h1 : isSp c = false := by
    unfold isSp
    simp
    omega
  have h2 : pre (c :: t) [47, 47] = false := by
    have : c ≠ 47 := fun e => by subst e; revert h; decide
    unfold pre
    cases t <;> simp [this]
  unfold blankL
  simp [blankN, h1, h2]
theorem tok_semi (u : Nat) (hu : u < 18446744073709551616) : tokens (Lib.decDigits u ++ [59]) = if u ≤ 9223372036854775807 then ([(2, Lib.decDigits u, 0), (5, [59], ((Lib.decDigits u).length : Int)), (0, [], ((Lib.decDigits u).length + 1 : Int))], 0, 0) else ([], 0, 90) := by
  have hl := Lib.decDigits_length u
  have hp := Lib.nDigits_pos u
  have hd := nDigits_le 19 u (by omega)
  have ha := digit_all u
  have hw := whole_digits u hu
  generalize Lib.decDigits u = s at *
  obtain ⟨c, r, rfl⟩ : ∃ c r, s = c :: r := by
    cases s with
    | nil => simp at hl; omega
    | cons c r => exact ⟨c, r, rfl⟩
  have hc := ha c (by simp)
  have hs : spn isDigit (c :: r ++ [59]) = (c :: r).length := by rw [spn_all _ _ ha]; rfl
  have hb := blank_digit (t := r ++ [59]) hc
  have h1 : oneL (c :: r ++ [59]) = (2, c :: r, decide (u ≤ 9223372036854775807)) := by
    unfold oneL
    have g1 : isDigit (((c :: r ++ [59]).getD 0 0).toNat : Int) = true := hc
    rw [if_pos g1]
    unfold numL
    rw [hs]
    have g2 : (c :: r ++ [59]).getD (c :: r).length 0 = 59 := by
      rw [List.getD_eq_getElem?_getD, List.getElem?_append_right (Nat.le_refl _), Nat.sub_self]
      rfl
    have g3 : (((59 : UInt8).toNat : Int) == 46) = false := by decide
    rw [g2, g3, Bool.and_false]
    have g4 : (c :: r ++ [59]).take (c :: r).length = c :: r := by
      rw [List.take_append_of_le_length (Nat.le_refl _), List.take_length]
    rw [g4, hw]
    rfl
  have hlen : (c :: r ++ [59]).length = (c :: r).length + 1 := by simp
  have hdr : (c :: r ++ [59]).drop (c :: r).length = [59] := by
    rw [List.drop_append_of_le_length (Nat.le_refl _), List.drop_length]; rfl
  have hb2 : blankL [59] = 0 := by decide
  have ho2 : oneL [59] = (5, [59], true) := by decide
  unfold tokens
  rw [if_neg (by rw [hlen]; omega)]
  have hb' : blankL (c :: r ++ [59]) = 0 := hb
  rw [hb', List.drop_zero, hlen]
  obtain ⟨k, hk⟩ : ∃ k, (c :: r).length = k + 1 := ⟨r.length, rfl⟩
  rw [hk]
  rw [toksN, if_neg (by simp), h1]
  by_cases hc2 : u ≤ 9223372036854775807
  · rw [if_pos hc2, if_neg (by simp [hc2])]
    simp only [hdr, hb2, Nat.add_zero]
    rw [toksN, if_neg (by simp), ho2]
    have hb3 : blankL [] = 0 := rfl
    simp only [List.drop_succ_cons, List.drop_zero, List.length_cons, List.length_nil, hb3, Nat.add_zero, Nat.zero_add, hk]
    simp [toksN, hb3]
    omega
  · rw [if_neg hc2, if_pos (by simp [hc2])]
theorem tok_zero (u : Nat) (hu : u < 18446744073709551616) : (tokens (48 :: Lib.decDigits u)).2.2 = 90 := by
  have hl := Lib.decDigits_length u
  have hp := Lib.nDigits_pos u
  have hd := nDigits_le 19 u (by omega)
  have ha := digit_all u
  generalize Lib.decDigits u = s at *
  have hall : ∀ c ∈ 48 :: s, isDigit (c.toNat : Int) = true := by
    intro c hc
    rcases List.mem_cons.1 hc with h | h
    · subst h; decide
    · exact ha c h
  have hs : spn isDigit (48 :: s) = (48 :: s).length := by
    have := spn_all (48 :: s) [] hall
    rw [List.append_nil] at this
    rw [this]; rfl
  have hb := blank_digit (t := s) (hall 48 (by simp))
  have h1 : (oneL (48 :: s)).2.2 = false := by
    unfold oneL
    have g1 : isDigit (((48 :: s).getD 0 0).toNat : Int) = true := hall 48 (by simp)
    rw [if_pos g1]
    unfold numL
    rw [hs]
    have g2 : decide ((48 :: s).length < (48 :: s).length) = false := by simp
    rw [g2, Bool.false_and, if_neg (by simp), List.take_length]
    unfold wholeL
    have g3 : decide (1 < (48 :: s).length) = true := by
      simp only [List.length_cons]
      rw [decide_eq_true_eq]; omega
    have g4 : ((((48 :: s).getD 0 0).toNat : Int) == 48) = true := rfl
    rw [g3, g4]
    rfl
  unfold tokens
  rw [if_neg (by simp; omega), hb, List.drop_zero, toksN, if_neg (by simp), if_pos h1]
def q9n : List D → Option D
  | [.str s] => if True then some (.tuple [.sl (encT (tokens s).1), .int .i64 (tokens s).2.1, .int .i64 (tokens s).2.2]) else none
  | _ => none
theorem q9n_ok (args : List D) (d : D) (h : q9n args = some d) : PCall Tryd.prog 9 args d := by
  unfold q9n at h
  split at h
  · split at h
    · cases h; exact tokens_c _
    · cases h
  · cases h

def tb9n : Tab := tb8n.addQ 9 q9n
theorem tb9n_q (g : FuncId) (args : List D) : tb9n.q g args = if g = 9 then q9n args else tb8n.q g args := rfl
theorem tb9n_a : tb9n.a = tb8n.a := rfl
theorem tb9n_c : tb9n.c = tb8n.c := rfl
theorem tb9n_ok : tb9n.ok Tryd.prog := Tab.addQ_ok tb8n_ok q9n_ok
theorem tb9n_e : type_of% (And.intro (And.intro @tb9n_q (And.intro @tb9n_a @tb9n_c)) @tb8n_e) := (And.intro (And.intro @tb9n_q (And.intro @tb9n_a @tb9n_c)) @tb8n_e)

theorem awakeT : tokens [97, 58, 61, 49, 46, 53, 32, 47, 47, 32, 120] = ([(1, [97], 0), (5, [58, 61], 1), (3, [49, 46, 53], 3), (0, [], 11)], 0, 0) := by decide +kernel
theorem awake09_c : PCall Tryd.prog 10 [] (.bool true) := by
  refine PCall.run tb9n_ok st10n (by simp) fun E => ?_
  simp (config := {maxSteps := 1000000}) only [s10n, q9n, awakeT, encT, tokD, askE, tb100n_e, tb9n_e, Int.natCast_nonneg, Nat.le_refl, Int.le_refl, List.take_succ_cons, List.take_zero, decide_true, decide_false, Bool.and_false, Bool.false_and, zz, zzN, zzF, fltEv, isArithF, ↓reduceIte, Nat.reduceEqDiff, Nat.reduceBEq, Int.reduceLT, Int.reduceLE, Int.reduceToNat, Int.reduceEq, Int.reduceAdd, Int.reduceSub, Int.reduceMul, Int.reduceNeg, Nat.reduceMul, Nat.reduceSub, Nat.reduceLeDiff, Nat.reduceLT, Int.reduceGT, Int.reduceBEq, Int.reduceBNe, reduceCtorEq, Nat.reduceAdd, Ins.map, Fr.ev, argFr, argE, binEv, intEv, shEv, strEv, unEv, Fr.mark, evRes, tup, lenD, lookupD, loadD, partD, storeD, cellsD, cellOk, setAt, objNe, objSame, eqEv, readEv, buildD, buildRows, rowsOf, elemsOf]
def q10n : List D → Option D
  | [] => if True then some (.bool true) else none
  | _ => none
theorem q10n_ok (args : List D) (d : D) (h : q10n args = some d) : PCall Tryd.prog 10 args d := by
  unfold q10n at h
  split at h
  · split at h
    · cases h; exact awake09_c
    · cases h
  · cases h

def tb10n : Tab := tb9n.addQ 10 q10n
theorem tb10n_q (g : FuncId) (args : List D) : tb10n.q g args = if g = 10 then q10n args else tb9n.q g args := rfl
theorem tb10n_a : tb10n.a = tb9n.a := rfl
theorem tb10n_c : tb10n.c = tb9n.c := rfl
theorem tb10n_ok : tb10n.ok Tryd.prog := Tab.addQ_ok tb9n_ok q10n_ok
theorem tb10n_e : type_of% (And.intro (And.intro @tb10n_q (And.intro @tb10n_a @tb10n_c)) @tb9n_e) := (And.intro (And.intro @tb10n_q (And.intro @tb10n_a @tb10n_c)) @tb9n_e)

theorem q10n_eq : q10n [] = some (.bool true) := rfl
theorem q9n_eq (s : List UInt8) : q9n [.str s] = some (.tuple [.sl (encT (tokens s).1), .int .i64 (tokens s).2.1, .int .i64 (tokens s).2.2]) := rfl
theorem lexNumbers_c (u : Nat) (hu : u < 18446744073709551616) : PCall Tryd.prog 3 [.int .u64 u] (.bool true) := by
  refine PCall.run tb10n_ok st3n (by simp) fun E => ?_
  have q := q8n_eqN hu
  have hl := Lib.decDigits_length u
  have hd := nDigits_le 19 u (by omega)
  have t1 := tok_semi u hu
  have t2 := tok_zero u hu
  have qa := q9n_eq (Lib.decDigits u ++ [59])
  have qb := q9n_eq (48 :: Lib.decDigits u)
  generalize Lib.decDigits u = s at *
  have l1 : (s.length + 1 ≤ 9223372036854775807) = True := eq_true (by omega)
  have l2 : (1 + s.length ≤ 9223372036854775807) = True := eq_true (by omega)
  have l3 : ([48] ++ s) = 48 :: s := rfl
  rw [t1] at qa
  rw [t2] at qb
  generalize tokens (48 :: s) = T at *
  by_cases c : u ≤ 9223372036854775807
  · have g : ((u : Int) ≤ 9223372036854775807) = True := eq_true (by omega)
    rw [if_pos c] at qa
    simp (config := {maxSteps := 1000000}) only [s3n, q, l1, l2, g, qa, qb, q10n_eq, encT, tokD, askE, tb100n_e, tb10n_e, Int.natCast_nonneg, Nat.le_refl, Int.le_refl, List.take_succ_cons, List.take_zero, decide_true, decide_false, Bool.and_false, Bool.false_and, zz, zzN, zzF, fltEv, isArithF, ↓reduceIte, Nat.reduceEqDiff, Nat.reduceBEq, Int.reduceLT, Int.reduceLE, Int.reduceToNat, Int.reduceEq, Int.reduceAdd, Int.reduceSub, Int.reduceMul, Int.reduceNeg, Nat.reduceMul, Nat.reduceSub, Nat.reduceLeDiff, Nat.reduceLT, Int.reduceGT, Int.reduceBEq, Int.reduceBNe, reduceCtorEq, Nat.reduceAdd, Ins.map, Fr.ev, argFr, argE, binEv, intEv, shEv, strEv, unEv, Fr.mark, evRes, tup, lenD, lookupD, loadD, partD, storeD, cellsD, cellOk, setAt, objNe, objSame, eqEv, readEv, buildD, buildRows, rowsOf, elemsOf]
  · have g : ((u : Int) ≤ 9223372036854775807) = False := eq_false (by omega)
    rw [if_neg c] at qa
    simp (config := {maxSteps := 1000000}) only [s3n, q, l1, l2, g, qa, qb, q10n_eq, encT, tokD, askE, tb100n_e, tb10n_e, Int.natCast_nonneg, Nat.le_refl, Int.le_refl, List.take_succ_cons, List.take_zero, decide_true, decide_false, Bool.and_false, Bool.false_and, zz, zzN, zzF, fltEv, isArithF, ↓reduceIte, Nat.reduceEqDiff, Nat.reduceBEq, Int.reduceLT, Int.reduceLE, Int.reduceToNat, Int.reduceEq, Int.reduceAdd, Int.reduceSub, Int.reduceMul, Int.reduceNeg, Nat.reduceMul, Nat.reduceSub, Nat.reduceLeDiff, Nat.reduceLT, Int.reduceGT, Int.reduceBEq, Int.reduceBNe, reduceCtorEq, Nat.reduceAdd, Ins.map, Fr.ev, argFr, argE, binEv, intEv, shEv, strEv, unEv, Fr.mark, evRes, tup, lenD, lookupD, loadD, partD, storeD, cellsD, cellOk, setAt, objNe, objSame, eqEv, readEv, buildD, buildRows, rowsOf, elemsOf]
theorem lexNumbers_i (n : Int) (w : (Lit.int .u64 n).wf = true) : PCall Tryd.prog 3 [.int .u64 n] (.bool true) := by
  simp [Lit.wf, IntKind.min, IntKind.max, IntKind.signed, IntKind.bits] at w
  have := lexNumbers_c n.toNat (by omega)
  rwa [show ((n.toNat : Nat) : Int) = n by omega] at this
end Go.Proofs.YthpgepillaeldaaDoor.Zz
