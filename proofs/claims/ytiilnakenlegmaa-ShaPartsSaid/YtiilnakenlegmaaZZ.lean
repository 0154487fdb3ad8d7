/- Arguments that are arrays, as plain data. -/
import Derived.Test.YtiilnakenlegmaaZW
import Derived.OpenShut
set_option linter.unusedVariables false
set_option linter.unusedSimpArgs false
namespace Go.Proofs.Ytiilnakenlegmaa.Zz
open Go.RowKit

theorem okWide_array {P : Program} {w : World} {r : Go.Reach} {base : Nat} {t : TypeId} {v : Value} {n : Nat} {e : TypeId} (ht : P.underlying t = some (.array n e)) (h : Value.okWide P w r base t v) : ∃ cs, v = .agg cs ∧ cs.size = P.cellsOf t := by
  simp only [Value.okWide, ht] at h
  obtain ⟨cs, h1, h2, _⟩ := h
  exact ⟨cs, h1, h2⟩

section
variable {H : Type} {enc : TypeId × Value → H} {P : Program} {w : World} {spare : Nat → Bool} {held : Bool}

/-- An array whose elements have one cell each. -/
theorem arr_rep {κ : Kap} {t e : TypeId} {n : Nat} {cs : Array Value} {d : DataW H} {ps : List MemPlace} {α : Type} (f : α → D) (Q : α → Prop) (ht : P.underlying t = some (.array n e)) (hc : P.cellsOf t = n) (ce : P.cellsOf e = 1)
    (hq : ∀ m v y, DataW.trod enc P w 0 spare held m e [v] = some y → ∃ a, Q a ∧ Rep κ w v (f a))
    (h : DataW.Trod enc P w 0 spare held t (.agg cs) d ps) : ∃ l : List α, l.length = n ∧ (∀ x ∈ l, Q x) ∧ Rep κ w (.agg cs) (.agg (l.map f)) := by
  obtain ⟨fuel, hf⟩ := h
  obtain ⟨xs, m, _, _, hl, hx, hg⟩ := DataW.trod_array ht hf
  obtain ⟨c⟩ := cs
  simp only [Value.cells] at hl hg hf
  rw [hc] at hl
  rw [ce] at hg
  have key : ∀ i (hi : i < n), ∃ a, Q a ∧ Rep κ w (c[i]'(by omega)) (f a) := fun i hi => by
    have g := hg i hi
    have e1 : (c.drop (i * 1)).take 1 = [c[i]'(by omega)] := by
      rw [Nat.mul_one, List.drop_eq_getElem_cons (by omega)]
      rfl
    rw [e1, List.getElem?_eq_getElem (by omega)] at g
    exact hq _ _ _ g
  have gen : ∀ k, k ≤ n → ∃ l : List α, l.length = k ∧ (∀ x ∈ l, Q x) ∧ ∀ i x, l[i]? = some x → ∃ h : i < c.length, Rep κ w (c[i]'h) (f x) := by
    intro k
    induction k with
    | zero => intro _; exact ⟨[], rfl, by simp, by simp⟩
    | succ k ih =>
      intro hk
      obtain ⟨l, h1, h2, h3⟩ := ih (by omega)
      obtain ⟨a, q, r⟩ := key k (by omega)
      refine ⟨l ++ [a], by simp [h1], ?_, ?_⟩
      · intro x hx
        rcases List.mem_append.1 hx with h | h
        · exact h2 x h
        · rw [List.mem_singleton.1 h]; exact q
      · intro i x hi
        by_cases h4 : i < l.length
        · rw [List.getElem?_append_left h4] at hi; exact h3 i x hi
        · rw [List.getElem?_append_right (by omega)] at hi
          have h5 : i = k := by
            have := (List.getElem?_eq_some_iff.1 hi).1
            simp at this; omega
          subst h5
          have h6 : i - l.length = 0 := by omega
          rw [h6] at hi
          cases hi
          exact ⟨by omega, r⟩
  obtain ⟨l, h1, h2, h3⟩ := gen n (Nat.le_refl _)
  refine ⟨l, h1, h2, .agg ?_ fun i d hd => ?_⟩
  · simp; omega
  · rw [List.getElem?_map] at hd
    cases e : l[i]? with
    | none => rw [e] at hd; cases hd
    | some x =>
      rw [e] at hd
      cases hd
      obtain ⟨h4, r⟩ := h3 i x e
      simpa [h4] using r
theorem ints_arr {κ : Kap} {t e : TypeId} {n : Nat} {k : IntKind} {cs : Array Value} {d : DataW H} {ps : List MemPlace} (ht : P.underlying t = some (.array n e)) (he : P.underlying e = some (.int k)) (hc : P.cellsOf t = n) (ce : P.cellsOf e = 1)
    (h : DataW.Trod enc P w 0 spare held t (.agg cs) d ps) : ∃ l : List Int, l.length = n ∧ (∀ x ∈ l, (Lit.int k x).wf = true) ∧ Rep κ w (.agg cs) (.agg (l.map fun x => .int k x)) :=
  arr_rep (fun x => .int k x) _ ht hc ce (fun m v y g => by
    obtain ⟨a, e0, _, w0⟩ := DataW.trod_int he g
    cases e0
    exact ⟨a, w0, .int _ _⟩) h
theorem strs_arr {t e u : TypeId} {n : Nat} {cs : Array Value} {d : DataW H} {ps : List MemPlace} (ht : P.underlying t = some (.array n e)) (he : P.underlying e = some (.slice u)) (hu : P.underlying u = some .string) (hc : P.cellsOf t = n) (ce : P.cellsOf e = 1) (cu : P.cellsOf u = 1)
    (h : DataW.Trod enc P w 0 spare held t (.agg cs) d ps) : ∃ l : List (List (List UInt8)), l.length = n ∧ Rep (old w) w (.agg cs) (.agg (l.map fun x => .sl (x.map fun s => [.str s]))) := by
  obtain ⟨l, h1, _, h3⟩ := arr_rep (κ := old w) (fun x : List (List UInt8) => .sl (x.map fun s => [.str s])) (fun _ => True) ht hc ce (fun m v y g => by
    have g0 := g
    rcases Go.Deep.open_strs he hu cu g with ⟨hcs, _⟩ | ⟨x, l, c, m, Sx, hcs, _⟩
    · cases hcs
      obtain ⟨l, r⟩ := strs_rep he hu cu (d := y.1) (ps := y.2) ⟨_, g0⟩
      exact ⟨l, trivial, r⟩
    · cases hcs
      obtain ⟨l, r⟩ := strs_rep he hu cu (d := y.1) (ps := y.2) ⟨_, g0⟩
      exact ⟨l, trivial, r⟩) h
  exact ⟨l, h1, h3⟩
end
end Go.Proofs.Ytiilnakenlegmaa.Zz
