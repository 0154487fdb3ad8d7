/- Plain law: words with spaces between them. -/
import Derived.Test.YtaimobfakcompaaZL8
namespace Go.Proofs.Ytaimobfakcompaa.Zz
set_option linter.unusedVariables false
set_option linter.unusedSimpArgs false

theorem isSp_cases {c : UInt8} (h : isSp c = true) : c = 32 ∨ c = 9 ∨ c = 10 := by
  simp only [isSp, Bool.or_eq_true, beq_iff_eq] at h
  rcases h with (h | h) | h
  · exact .inl (UInt8.toNat_inj.1 (by simp; omega))
  · exact .inr (.inl (UInt8.toNat_inj.1 (by simp; omega)))
  · exact .inr (.inr (UInt8.toNat_inj.1 (by simp; omega)))
theorem sp_digit {c : UInt8} (h : isSp c = true) : isDigit (c.toNat : Int) = false ∧ nameP (c.toNat : Int) = false ∧ ((c.toNat : Int) == 46) = false ∧ c ≠ 61 ∧ c ≠ 38 ∧ c ≠ 124 ∧ c ≠ 47 := by
  rcases isSp_cases h with rfl | rfl | rfl <;> decide
/-- A run that ends within what is taken. -/
theorem spn_take (p : Int → Bool) (c : UInt8) (r : List UInt8) : ∀ (l : List UInt8) (k : Nat), spn p l ≤ k → k ≤ l.length → (k = spn p l → p (c.toNat : Int) = false) → spn p (l.take k ++ c :: r) = spn p l
  | [], k, h1, h2, h3 => by
    have : k = 0 := by simpa using h2
    subst this
    simp only [List.take_nil, List.nil_append]
    rw [spn_cons, h3 rfl]; rfl
  | d :: l, 0, h1, h2, h3 => by
    have e : spn p (d :: l) = 0 := by omega
    rw [e, List.take_zero, List.nil_append, spn_cons, h3 e.symm]; rfl
  | d :: l, k + 1, h1, h2, h3 => by
    rw [spn_cons] at h1 h3 ⊢
    rw [List.take_succ_cons, List.cons_append, spn_cons]
    split
    · rename_i hd
      rw [if_pos hd] at h1 h3
      rw [spn_take p c r l k (by omega) (by simpa using h2) (fun e => h3 (by omega))]
    · rfl
theorem getD_take {c : UInt8} {r l : List UInt8} {k n : Nat} (h : n < k) (hk : k ≤ l.length) : (l.take k ++ c :: r).getD n 0 = l.getD n 0 := by
  have : n < (l.take k).length := by simp; omega
  simp only [List.getD_eq_getElem?_getD]
  rw [List.getElem?_append_left this, List.getElem?_take, if_pos h]
theorem getD_at {c : UInt8} {r l : List UInt8} {k : Nat} (hk : k ≤ l.length) : (l.take k ++ c :: r).getD k 0 = c := by
  have : (l.take k).length = k := by simp; omega
  simp only [List.getD_eq_getElem?_getD]
  rw [List.getElem?_append_right (by omega), this]; simp
theorem drop_take' {c : UInt8} {r l : List UInt8} {k n : Nat} (h : n ≤ k) (hk : k ≤ l.length) : (l.take k ++ c :: r).drop n = (l.drop n).take (k - n) ++ c :: r := by
  rw [List.drop_append_of_le_length (by simp; omega), List.drop_take]
theorem take_take' {c : UInt8} {r l : List UInt8} {k n : Nat} (h : n ≤ k) (hk : k ≤ l.length) : (l.take k ++ c :: r).take n = l.take n := by
  rw [List.take_append_of_le_length (by simp; omega), List.take_take, Nat.min_eq_left h]
theorem numL_take {c : UInt8} {r l : List UInt8} (hc : isSp c = true) (h : (numL l).2.2 = true) : numL ((numL l).2.1 ++ c :: r) = numL l := by
  obtain ⟨s1, s2, s3, _⟩ := sp_digit hc
  have h2 := spn_le isDigit l
  have h3 := spn_le isDigit (l.drop (spn isDigit l + 1))
  rw [List.length_drop] at h3
  by_cases hd : (decide (spn isDigit l < l.length) && ((l.getD (spn isDigit l) 0).toNat : Int) == 46) = true
  · have e : numL l = (3, l.take (spn isDigit l + 1 + spn isDigit (l.drop (spn isDigit l + 1))), !(decide (spn isDigit (l.drop (spn isDigit l + 1)) = 0) || decide (15 < spn isDigit l + spn isDigit (l.drop (spn isDigit l + 1))))) := by
      unfold numL; rw [if_pos hd]
    rw [e]
    simp only [Bool.and_eq_true, decide_eq_true_eq] at hd
    generalize hn : spn isDigit l = n at *
    generalize hm : spn isDigit (l.drop (n + 1)) = m at *
    have f1 : spn isDigit (l.take (n + 1 + m) ++ c :: r) = n := by rw [spn_take _ _ _ _ _ (by omega) (by omega) (by omega), hn]
    have f2 : (l.take (n + 1 + m) ++ c :: r).getD n 0 = l.getD n 0 := getD_take (by omega) (by omega)
    have f3 : spn isDigit ((l.take (n + 1 + m) ++ c :: r).drop (n + 1)) = m := by
      rw [drop_take' (by omega) (by omega), spn_take _ _ _ _ _ (by omega) (by simp; omega) (fun _ => s1), hm]
    have f4 : (l.take (n + 1 + m) ++ c :: r).take (n + 1 + m) = l.take (n + 1 + m) := take_take' (Nat.le_refl _) (by omega)
    have f5 : n < (l.take (n + 1 + m) ++ c :: r).length := by simp; omega
    unfold numL
    simp only [f1, f2, f3, f4, f5, hd.2, decide_true, Bool.and_self, if_true]
  · have e : numL l = (2, l.take (spn isDigit l), wholeL (l.take (spn isDigit l))) := by
      unfold numL; rw [if_neg hd]
    rw [e]
    generalize hn : spn isDigit l = n at *
    have f1 : spn isDigit (l.take n ++ c :: r) = n := by rw [spn_take _ _ _ _ _ (by omega) (by omega) (fun _ => s1), hn]
    have f2 : (l.take n ++ c :: r).getD n 0 = c := getD_at (by omega)
    have f4 : (l.take n ++ c :: r).take n = l.take n := take_take' (Nat.le_refl _) (by omega)
    unfold numL
    simp only [f1, f2, f4, s3, Bool.and_false, Bool.false_eq_true, if_false]
def ofSign : Option (List UInt8) → Int × List UInt8 × Bool
  | some x => (5, x, true)
  | none => (0, [], false)
theorem oneL_take {c : UInt8} {r l : List UInt8} (hc : isSp c = true) (hl : 0 < l.length) (h : (oneL l).2.2 = true) : oneL ((oneL l).2.1 ++ c :: r) = oneL l := by
  obtain ⟨s1, s2, s3, s4, s5, s6, s7⟩ := sp_digit hc
  obtain ⟨b1, b2, b3, b4⟩ := oneL_ok hl h
  have hd0 : ((oneL l).2.1 ++ c :: r).getD 0 0 = l.getD 0 0 := by rw [b3]; exact getD_take (by omega) b2
  by_cases c1 : isDigit ((l.getD 0 0).toNat : Int) = true
  · have e : ∀ x : List UInt8, x.getD 0 0 = l.getD 0 0 → oneL x = numL x := fun x hx => by unfold oneL; rw [hx, if_pos c1]
    rw [e _ hd0, e l rfl]
    rw [e l rfl] at h
    exact numL_take hc h
  by_cases c2 : isLetter ((l.getD 0 0).toNat : Int) = true
  · have e : ∀ x : List UInt8, x.getD 0 0 = l.getD 0 0 → oneL x = if words.contains (x.take (spn nameP x)) = true then (4, x.take (spn nameP x), true) else (1, x.take (spn nameP x), decide (spn nameP x ≤ 16)) := fun x hx => by unfold oneL; rw [hx, if_neg c1, if_pos c2]
    have ht : (oneL l).2.1 = l.take (spn nameP l) := by rw [e l rfl]; split <;> rfl
    have h2 := spn_le nameP l
    rw [e _ hd0, e l rfl]
    rw [e l rfl] at ht
    rw [ht]
    rw [spn_take _ _ _ _ _ (Nat.le_refl _) h2 (fun _ => s2), take_take' (Nat.le_refl _) h2]
  · have e : ∀ x : List UInt8, x.getD 0 0 = l.getD 0 0 → oneL x = ofSign (firstPre x signs) := fun x hx => by unfold oneL; rw [hx, if_neg c1, if_neg c2]; rfl
    have hx : 0 < ((oneL l).2.1 ++ c :: r).length := by simp; omega
    rw [e _ hd0, firstPre_signs hx]
    have el := e l rfl
    rw [firstPre_signs hl] at el
    by_cases z : signL l = 0
    · rw [if_pos z] at el; rw [el] at h; cases h
    rw [if_neg z] at el
    have sl := signL_le hl
    have ht : (oneL l).2.1 = l.take (signL l) := by rw [el]; rfl
    have sx : signL ((oneL l).2.1 ++ c :: r) = signL l := by
      unfold signL
      rw [hd0]
      by_cases t2 : twos.contains (l.take 2) = true
      · have s2 : signL l = 2 := by unfold signL; rw [if_pos t2]
        rw [s2] at ht sl
        rw [if_pos t2, ht, take_take' (Nat.le_refl _) sl, if_pos t2]
      · rw [if_neg t2]
        have s1' : signL l = 1 := by
          unfold signL at z ⊢; rw [if_neg t2] at z ⊢
          split at z
          · rename_i h1; rw [if_pos h1]
          · exact absurd rfl z
        rw [s1'] at ht
        have : (l.take 1 ++ c :: r).take 2 = [l.getD 0 0, c] := by
          cases l with
          | nil => simp at hl
          | cons d l => simp
        have nt : twos.contains [l.getD 0 0, c] = false := by
          simp [twos, s4, s5, s6]
        rw [ht, this, if_neg (by rw [nt]; exact Bool.false_ne_true)]
    rw [sx, if_neg z, ht, take_take' (Nat.le_refl _) sl, el]

def seps : List (List UInt8) := [[32], [9, 32], [10], [32, 47, 47, 32, 97, 32, 110, 111, 116, 101, 32, 58, 61, 10]]
theorem blank_sep {x : List UInt8} (h : x ∈ seps) (rest : List UInt8) : blankL (x ++ rest) = x.length + blankL rest ∧ ∃ c r, x = c :: r ∧ isSp c = true := by
  have b1 : ∀ (c : UInt8) (t : List UInt8), isSp c = true → blankL (c :: t) = 1 + blankL t := fun c t h => by rw [blankL_cons, if_pos h]
  simp only [seps, List.mem_cons, List.not_mem_nil, or_false] at h
  rcases h with rfl | rfl | rfl | rfl
  · exact ⟨b1 _ _ (by decide), _, _, rfl, by decide⟩
  · refine ⟨?_, _, _, rfl, by decide⟩
    simp only [List.cons_append, List.nil_append]
    rw [b1 _ _ (by decide), b1 _ _ (by decide), ← Nat.add_assoc]; rfl
  · exact ⟨b1 _ _ (by decide), _, _, rfl, by decide⟩
  · refine ⟨?_, _, _, rfl, by decide⟩
    simp only [List.cons_append, List.nil_append]
    have hs : spn (fun n => n != 10) (47 :: 47 :: 32 :: 97 :: 32 :: 110 :: 111 :: 116 :: 101 :: 32 :: 58 :: 61 :: 10 :: rest) = 12 := by
      simp [spn]
    rw [b1 _ _ (by decide), blankL_cons, if_neg (by decide), if_pos (by simp [pre]), hs]
    simp only [List.drop_succ_cons, List.drop_zero]
    rw [b1 _ _ (by decide)]
    simp only [List.length_cons, List.length_nil]
    omega
theorem blank_word {c : UInt8} {r l : List UInt8} (hc : isSp c = true) (hl : 0 < l.length) (h : (oneL l).2.2 = true) : blankL ((oneL l).2.1 ++ c :: r) = 0 := by
  obtain ⟨s1, s2, s3, s4, s5, s6, s7⟩ := sp_digit hc
  obtain ⟨b1, b2, b3, b4⟩ := oneL_ok hl h
  have e1 := oneL_take (r := r) hc hl h
  have nsp : ∀ d : UInt8, isSp d = true → ∀ y, (oneL (d :: y)).2.2 = false := fun d hd y => by
    rcases isSp_cases hd with rfl | rfl | rfl <;> rfl
  have nno : ∀ y, (oneL (47 :: y)).2.2 = true → (oneL (47 :: y)).2.1 = [47] := fun y hy => by
    have f1 : isDigit (((47 : UInt8).toNat : Int)) = false := by decide
    have f2 : isLetter (((47 : UInt8).toNat : Int)) = false := by decide
    have e : oneL (47 :: y) = ofSign (firstPre (47 :: y) signs) := by
      unfold oneL; rw [List.getD_cons_zero, if_neg (by rw [f1]; exact Bool.false_ne_true), if_neg (by rw [f2]; exact Bool.false_ne_true)]; rfl
    have t2 : twos.contains ((47 :: y).take 2) = false := by cases y <;> simp [twos]
    have s1 : signL (47 :: y) = 1 := by
      unfold signL; rw [if_neg (by rw [t2]; exact Bool.false_ne_true)]; rfl
    rw [e, firstPre_signs (by simp), s1]; rfl
  generalize hx : (oneL l).2.1 ++ c :: r = x at e1
  cases x with
  | nil => rfl
  | cons d y =>
    rw [blankL_cons, if_neg (fun hd => by rw [← e1, nsp d hd y] at h; cases h), if_neg]
    intro hp
    have hd : d = 47 := by
      cases y with
      | nil => simp [pre] at hp
      | cons d2 y => simp [pre] at hp; exact hp.1
    subst hd
    have := nno y (by rw [e1]; exact h)
    rw [e1] at this
    rw [this, List.cons_append, List.nil_append] at hx
    cases hx
    simp [pre] at hp
    exact s7 hp
/-- What is a word of some text. -/
def Good (t : Tok) : Prop := ∃ l : List UInt8, 0 < l.length ∧ oneL l = (t.1, t.2.1, true)
theorem toks_good : ∀ (n p : Nat) (l : List UInt8) (acc T : List Tok) (a : Nat), l.length < n → toksN n p l acc = (T, a, 0) → (∀ w ∈ acc, Good w) → ∃ W e, T = W ++ [(0, [], e)] ∧ ∀ w ∈ W, Good w
  | 0, p, l, acc, T, a, h, _, _ => by omega
  | n + 1, p, l, acc, T, a, hn, h, hg => by
    simp only [toksN] at h
    by_cases e : l = []
    · rw [if_pos e] at h
      simp only [Prod.mk.injEq] at h
      exact ⟨acc, _, h.1.symm, hg⟩
    · rw [if_neg e] at h
      have hl : 0 < l.length := List.length_pos_iff.2 e
      by_cases c : (oneL l).2.2 = false
      · rw [if_pos c] at h; simp at h
      · rw [if_neg c] at h
        have c' : (oneL l).2.2 = true := by simpa using c
        obtain ⟨b1, b2, b3, b4⟩ := oneL_ok hl c'
        refine toks_good n _ _ _ T a (by simp; omega) h fun w hw => ?_
        rcases List.mem_append.1 hw with h1 | h1
        · exact hg w h1
        · rw [List.mem_singleton] at h1
          subst h1
          exact ⟨l, hl, by rw [← c']⟩
/-- Words, and something behind each. -/
def rend (f : Nat → List UInt8) : Nat → List Tok → List UInt8
  | _, [] => []
  | i, t :: T => t.2.1 ++ f i ++ rend f (i + 1) T
theorem rend_snoc (f : Nat → List UInt8) (x : Tok) : ∀ (i : Nat) (T : List Tok), rend f i (T ++ [x]) = rend f i T ++ (x.2.1 ++ f (i + T.length))
  | i, [] => by simp [rend]
  | i, t :: T => by
    rw [List.cons_append, rend, rend, rend_snoc f x (i + 1) T, List.length_cons]
    have : i + 1 + T.length = i + (T.length + 1) := by omega
    rw [this]; simp
theorem Good.step {t : Tok} (h : Good t) {c : UInt8} {r : List UInt8} (hc : isSp c = true) : oneL (t.2.1 ++ c :: r) = (t.1, t.2.1, true) ∧ blankL (t.2.1 ++ c :: r) = 0 ∧ 1 ≤ t.2.1.length := by
  obtain ⟨l, hl, e⟩ := h
  have h2 : (oneL l).2.2 = true := by rw [e]
  have a := oneL_take (r := r) hc hl h2
  have b := blank_word (r := r) hc hl h2
  have d := (oneL_ok hl h2).1
  rw [e] at a b d
  exact ⟨a, b, d⟩
def ks (t : Tok) : Int × List UInt8 := (t.1, t.2.1)
theorem toks_rend (f : Nat → List UInt8) (hf : ∀ i, f i ∈ seps) (e : Int) : ∀ (W : List Tok) (i n p : Nat) (acc : List Tok), (∀ w ∈ W, Good w) → (rend f i (W ++ [(0, [], e)])).length < n →
    ∃ T, toksN n (p + blankL (rend f i (W ++ [(0, [], e)]))) ((rend f i (W ++ [(0, [], e)])).drop (blankL (rend f i (W ++ [(0, [], e)])))) acc = (acc ++ T, 0, 0) ∧ T.map ks = (W ++ [(0, [], e)]).map ks
  | [], i, n, p, acc, hg, hn => by
    obtain ⟨n, rfl⟩ : ∃ m, n = m + 1 := ⟨n - 1, by omega⟩
    obtain ⟨b, c, r, hx, hc⟩ := blank_sep (hf i) []
    have e1 : rend f i ([] ++ [(0, [], e)]) = f i := by simp [rend]
    rw [List.append_nil] at b
    rw [e1, b, blankL_nil, Nat.add_zero (f i).length, List.drop_length]
    simp only [toksN, if_true]
    exact ⟨_, rfl, rfl⟩
  | w :: W, i, n, p, acc, hg, hn => by
    obtain ⟨n, rfl⟩ : ∃ m, n = m + 1 := ⟨n - 1, by omega⟩
    generalize hR : rend f (i + 1) (W ++ [(0, [], e)]) = R
    have e1 : rend f i (w :: W ++ [(0, [], e)]) = w.2.1 ++ (f i ++ R) := by rw [List.cons_append, rend, hR, List.append_assoc]
    obtain ⟨b, c, r, hx, hc⟩ := blank_sep (hf i) R
    obtain ⟨g1, g2, g3⟩ := (hg w (by simp)).step (c := c) (r := r ++ R) hc
    have e2 : w.2.1 ++ (f i ++ R) = w.2.1 ++ c :: (r ++ R) := by rw [hx]; simp
    rw [e1] at hn ⊢
    have d1 : (w.2.1 ++ c :: (r ++ R)).drop w.2.1.length = f i ++ R := by rw [List.drop_left, hx]; simp
    rw [e2] at hn ⊢
    rw [g2, List.drop_zero, Nat.add_zero p]
    simp only [toksN]
    rw [if_neg (by simp), g1, if_neg (by simp)]
    simp only
    rw [d1, ← List.drop_drop, d1, b]
    have e3 : (f i ++ R).drop ((f i).length + blankL R) = R.drop (blankL R) := by rw [← List.drop_drop, List.drop_left]
    rw [e3]
    have ln : R.length < n := by
      rw [← e2] at hn
      simp only [List.length_append] at hn
      omega
    obtain ⟨T, h1, h2⟩ := toks_rend f hf e W (i + 1) n (p + w.2.1.length + (f i).length) (acc ++ [(w.1, w.2.1, (p : Int))]) (fun x hx => hg x (by simp [hx])) (by rw [hR]; exact ln)
    rw [hR] at h1
    have e4 : p + w.2.1.length + ((f i).length + blankL R) = p + w.2.1.length + (f i).length + blankL R := by omega
    rw [e4, h1]
    refine ⟨(w.1, w.2.1, (p : Int)) :: T, by simp, ?_⟩
    rw [List.map_cons, List.cons_append, List.map_cons, h2]; rfl
/-- Spaces and notes between words change nothing of the words. -/
theorem tokens_rend {s : List UInt8} {T : List Tok} {a : Nat} (h : tokens s = (T, a, 0)) (f : Nat → List UInt8) (hf : ∀ i, f i ∈ seps) (hl : (rend f 0 T).length ≤ 4096) :
    ∃ T', tokens (rend f 0 T) = (T', 0, 0) ∧ T'.map ks = T.map ks := by
  unfold tokens at h
  split at h
  · simp at h
  · have hb := blankL_le s
    obtain ⟨W, e, rfl, hg⟩ := toks_good _ _ _ _ _ _ (by simp; omega) h (by simp)
    obtain ⟨T', h1, h2⟩ := toks_rend f hf e W 0 ((rend f 0 (W ++ [(0, [], e)])).length + 1) 0 [] hg (by omega)
    refine ⟨T', ?_, h2⟩
    unfold tokens
    rw [if_neg (by omega)]
    rw [Nat.zero_add] at h1
    exact h1
end Go.Proofs.Ytaimobfakcompaa.Zz
