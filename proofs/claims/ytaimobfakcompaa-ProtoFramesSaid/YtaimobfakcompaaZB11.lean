/- The plain law of frames in chunks. -/
import Derived.Test.YtaimobfakcompaaZB10
namespace Go.Proofs.Ytaimobfakcompaa.Zz
set_option linter.unusedVariables false
set_option linter.unusedSimpArgs false

/-- Frames from the front on: the bodies, what is left, whether one is too long. -/
def parseN : Nat → List UInt8 → List (List UInt8) × List UInt8 × Bool
  | 0, b => ([], b, false)
  | n + 1, b =>
    if b.length < 4 then ([], b, false)
    else if 65536 < unLe (b.take 4) then ([], [], true)
    else if b.length < 4 + unLe (b.take 4) then ([], b, false)
    else ((b.drop 4).take (unLe (b.take 4)) :: (parseN n (b.drop (4 + unLe (b.take 4)))).1, (parseN n (b.drop (4 + unLe (b.take 4)))).2)
def parse (b : List UInt8) := parseN (b.length + 1) b

theorem parseN_fuel : ∀ (n m : Nat) (b : List UInt8), b.length < n → b.length < m → parseN n b = parseN m b
  | 0, m, b, h, _ => by omega
  | n + 1, 0, b, _, h => by omega
  | n + 1, m + 1, b, h1, h2 => by
    simp only [parseN]
    by_cases c1 : b.length < 4
    · rw [if_pos c1, if_pos c1]
    rw [if_neg c1, if_neg c1]
    by_cases c2 : 65536 < unLe (b.take 4)
    · rw [if_pos c2, if_pos c2]
    rw [if_neg c2, if_neg c2]
    by_cases c3 : b.length < 4 + unLe (b.take 4)
    · rw [if_pos c3, if_pos c3]
    rw [if_neg c3, if_neg c3]
    rw [parseN_fuel n m (b.drop (4 + unLe (b.take 4))) (by simp; omega) (by simp; omega)]

/-- Feeding is parsing, where all fits. -/
theorem feedN_parse : ∀ (n : Nat) (d s : List UInt8) (out : List (List UInt8)), d.length + s.length < n → d.length + s.length ≤ 65540 →
    feedN n d s out = (out ++ (parseN n (d ++ s)).1, (parseN n (d ++ s)).2)
  | 0, d, s, out, h, _ => by omega
  | n + 1, d, s, out, h, h2 => by
    have e1 : s.take (65540 - d.length) = s := List.take_of_length_le (by omega)
    have e2 : s.drop (65540 - d.length) = [] := List.drop_of_length_le (by omega)
    simp only [feedN, parseN, e1, e2]
    by_cases c1 : (d ++ s).length < 4
    · rw [if_pos c1, if_pos c1]; simp
    rw [if_neg c1, if_neg c1]
    by_cases c2 : 65536 < unLe ((d ++ s).take 4)
    · rw [if_pos c2, if_pos c2]; simp
    rw [if_neg c2, if_neg c2]
    by_cases c3 : (d ++ s).length < 4 + unLe ((d ++ s).take 4)
    · rw [if_pos c3, if_pos c3]; simp
    rw [if_neg c3, if_neg c3]
    have hl : ((d ++ s).drop (4 + unLe ((d ++ s).take 4))).length + 4 ≤ d.length + s.length := by
      rw [List.length_drop, List.length_append]
      simp only [List.length_append] at c3
      omega
    rw [feedN_parse n _ [] _ (by simp only [List.length_nil]; omega) (by simp only [List.length_nil]; omega)]
    simp
theorem feed_parse (d s : List UInt8) (h : d.length + s.length ≤ 65540) : feed d s = parse (d ++ s) := by
  unfold feed parse
  rw [feedN_parse _ _ _ _ (by omega) h]
  simp
theorem parse_app : ∀ (n m : Nat) (a b : List UInt8), a.length < n → (a ++ b).length < m →
    parseN m (a ++ b) = if (parseN n a).2.2 = true then parseN n a else ((parseN n a).1 ++ (parse ((parseN n a).2.1 ++ b)).1, (parse ((parseN n a).2.1 ++ b)).2)
  | 0, m, a, b, h, _ => by omega
  | n + 1, 0, a, b, _, h => by omega
  | n + 1, m + 1, a, b, h1, h2 => by
    have whole : parseN (m + 1) (a ++ b) = ([] ++ (parse (a ++ b)).1, (parse (a ++ b)).2) := by
      rw [List.nil_append]
      exact parseN_fuel _ _ _ h2 (by omega)
    by_cases c1 : a.length < 4
    · have e : parseN (n + 1) a = ([], a, false) := by simp only [parseN]; rw [if_pos c1]
      rw [e, whole]; simp
    have c1' : ¬ (a ++ b).length < 4 := by simp only [List.length_append]; omega
    have e4 : (a ++ b).take 4 = a.take 4 := List.take_append_of_le_length (by omega)
    by_cases c2 : 65536 < unLe (a.take 4)
    · have e : parseN (n + 1) a = ([], [], true) := by simp only [parseN]; rw [if_neg c1, if_pos c2]
      rw [e]
      simp only [parseN, e4]
      rw [if_neg c1', if_pos c2]
      simp
    by_cases c3 : a.length < 4 + unLe (a.take 4)
    · have e : parseN (n + 1) a = ([], a, false) := by simp only [parseN]; rw [if_neg c1, if_neg c2, if_pos c3]
      rw [e, whole]; simp
    have c3' : ¬ (a ++ b).length < 4 + unLe (a.take 4) := by simp only [List.length_append]; omega
    have e5 : (a ++ b).drop (4 + unLe (a.take 4)) = a.drop (4 + unLe (a.take 4)) ++ b := List.drop_append_of_le_length (by omega)
    have e6 : ((a ++ b).drop 4).take (unLe (a.take 4)) = (a.drop 4).take (unLe (a.take 4)) := by
      rw [List.drop_append_of_le_length (by omega), List.take_append_of_le_length (by simp; omega)]
    have ih := parse_app n m (a.drop (4 + unLe (a.take 4))) b (by simp; omega) (by simp only [List.length_append, List.length_drop] at *; omega)
    have eA : parseN (n + 1) a = ((a.drop 4).take (unLe (a.take 4)) :: (parseN n (a.drop (4 + unLe (a.take 4)))).1, (parseN n (a.drop (4 + unLe (a.take 4)))).2) := by
      simp only [parseN]; rw [if_neg c1, if_neg c2, if_neg c3]
    have eB : parseN (m + 1) (a ++ b) = ((a.drop 4).take (unLe (a.take 4)) :: (parseN m (a.drop (4 + unLe (a.take 4)) ++ b)).1, (parseN m (a.drop (4 + unLe (a.take 4)) ++ b)).2) := by
      simp only [parseN, e4, e5, e6]; rw [if_neg c1', if_neg c2, if_neg c3']
    rw [eB, ih]
    simp only [eA]
    split <;> simp
theorem parse_append (a b : List UInt8) : parse (a ++ b) = if (parse a).2.2 = true then parse a else ((parse a).1 ++ (parse ((parse a).2.1 ++ b)).1, (parse ((parse a).2.1 ++ b)).2) :=
  parse_app _ _ a b (by omega) (by omega)
/-- The law's own frames are these. -/
theorem framesN_parse (s : List UInt8) : ∀ (n p : Nat) (out : List (List UInt8)), s.length < p + n → p ≤ s.length →
    (framesN s n p out).1 = out ++ (parseN n (s.drop p)).1 ∧ (framesN s n p out).2.2 = (parseN n (s.drop p)).2.2 ∧
      ((parseN n (s.drop p)).2.2 = false → s.length - (framesN s n p out).2.1 = (parseN n (s.drop p)).2.1.length ∧ (framesN s n p out).2.1 ≤ s.length)
  | 0, p, out, h, h2 => by omega
  | n + 1, p, out, h, h2 => by
    have hl : (s.drop p).length = s.length - p := by simp
    simp only [framesN, parseN, hl]
    by_cases c1 : s.length < p + 4
    · have c1' : s.length - p < 4 := by omega
      rw [if_pos c1, if_pos c1']; simp; omega
    have c1' : ¬ s.length - p < 4 := by omega
    rw [if_neg c1, if_neg c1']
    by_cases c2 : 65536 < unLe ((s.drop p).take 4)
    · rw [if_pos c2, if_pos c2]; simp
    rw [if_neg c2, if_neg c2]
    by_cases c3 : s.length < p + 4 + unLe ((s.drop p).take 4)
    · have c3' : s.length - p < 4 + unLe ((s.drop p).take 4) := by omega
      rw [if_pos c3, if_pos c3']; simp; omega
    have c3' : ¬ s.length - p < 4 + unLe ((s.drop p).take 4) := by omega
    rw [if_neg c3, if_neg c3']
    have ih := framesN_parse s n (p + (4 + unLe ((s.drop p).take 4))) (out ++ [(s.drop (p + 4)).take (unLe ((s.drop p).take 4))]) (by omega) (by omega)
    simp only [List.drop_drop] at ih ⊢
    refine ⟨?_, ih.2.1, ih.2.2⟩
    rw [ih.1]
    simp
theorem frames_parse (s : List UInt8) : (frames s).1 = (parse s).1 ∧ (frames s).2.2 = (parse s).2.2 ∧ ((parse s).2.2 = false → s.length - (frames s).2.1 = (parse s).2.1.length ∧ (frames s).2.1 ≤ s.length) := by
  have := framesN_parse s (s.length + 1) 0 [] (by omega) (by omega)
  simpa [frames, parse] using this
end Go.Proofs.Ytaimobfakcompaa.Zz
