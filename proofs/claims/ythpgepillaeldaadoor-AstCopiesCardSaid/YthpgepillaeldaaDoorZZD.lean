/- Slices of structs that came in, as plain data. -/
import Derived.Test.YthpgepillaeldaaDoorZW
import Derived.Lib.SmallJoins
set_option linter.unusedVariables false
set_option linter.unusedSimpArgs false
namespace Go.Proofs.YthpgepillaeldaaDoor.Zz
open Go.RowKit

section
variable {H : Type} {enc : TypeId × Value → H} {P : Program} {w : World} {spare : Nat → Bool} {held : Bool}

theorem rows_rep {α : Type} (F : α → List D) (Q : α → Prop) {t e : TypeId} {sz : Nat} {a : Option Addr} {len cap : Nat} {d : DataW H} {ps : List MemPlace} (ht : P.underlying t = some (.slice e)) (hc : P.cellsOf e = sz) (hpos : 0 < sz) (hF : ∀ a, (F a).length = sz)
    (hq : ∀ (m : Nat) (cs : List Value) (y : DataW H × List MemPlace), DataW.trod enc P w 0 spare held m e cs = some y → ∃ a, Q a ∧ ∀ (j : Nat) (d : D), (F a)[j]? = some d → ∃ v, cs[j]? = some v ∧ Rep (old w) w v d)
    (h : DataW.Trod enc P w 0 spare held t (.slice a len cap) d ps) : ∃ l : List α, (∀ x ∈ l, Q x) ∧ Rep (old w) w (.slice a len cap) (.sl (l.map F)) := by
  obtain ⟨fuel, hf⟩ := h
  rcases DataW.trod_slice ht hf with ⟨hcs, _⟩ | ⟨ad, l, c, elems, rest, n, _, hcs, _, _, hl, hm, hlen, hx, _⟩
  · simp [Value.cells] at hcs
    obtain ⟨rfl, rfl, rfl⟩ := hcs
    exact ⟨[], by simp, .slnil (fun _ => rfl)⟩
  · simp [Value.cells] at hcs
    obtain ⟨rfl, rfl, rfl⟩ := hcs
    by_cases h0 : len = 0
    · subst h0; exact ⟨[], by simp, .slnil (fun h => by cases h)⟩
    have key : ∀ i, i < len → ∃ x, Q x ∧ ∀ (j : Nat) (d : D), (F x)[j]? = some d → ∃ v, w.cell? ((ad.add (i * sz)).add j) = some v ∧ Rep (old w) w v d := fun i hi => by
      have g := hx i hi
      rw [hc, List.getElem?_eq_getElem (by omega)] at g
      obtain ⟨cs, g1, g2⟩ := Option.bind_eq_some_iff.1 g
      obtain ⟨x, q, hr⟩ := hq _ _ _ g2
      obtain ⟨_, g3, g4⟩ := World.cells?_some g1
      refine ⟨x, q, fun j d hd => ?_⟩
      obtain ⟨v, v1, v2⟩ := hr j d hd
      have hj : j < sz := by rw [← hF x]; exact (List.getElem?_eq_some_iff.1 hd).1
      exact ⟨v, (g4 j hj).trans v1, v2⟩
    have hs : ad.spot = none := by
      obtain ⟨x, q, hr⟩ := key 0 (by omega)
      have : (F x)[0]? ≠ none := by
        rw [List.getElem?_eq_getElem (by rw [hF]; exact hpos)]; simp
      cases e : (F x)[0]? with
      | none => exact absurd e this
      | some d =>
        obtain ⟨v, v1, _⟩ := hr 0 d e
        simpa [Addr.add] using World.cell?_spot v1
    obtain ⟨b, o, sp⟩ := ad
    simp only at hs
    subst hs
    have gen : ∀ k, k ≤ len → ∃ l : List α, l.length = k ∧ (∀ x ∈ l, Q x) ∧ ∀ (i : Nat) (x : α) (j : Nat) (d : D), l[i]? = some x → (F x)[j]? = some d → ∃ v, w.cell? ⟨b, o + i * sz + j, none⟩ = some v ∧ Rep (old w) w v d := by
      intro k
      induction k with
      | zero => intro _; exact ⟨[], rfl, by simp, by simp⟩
      | succ k ih =>
        intro hk
        obtain ⟨l, h1, h2, h3⟩ := ih (by omega)
        obtain ⟨a, q, r⟩ := key k (by omega)
        refine ⟨l ++ [a], by simp [h1], ?_, ?_⟩
        · intro x hx
          rcases List.mem_append.1 hx with h | h
          · exact h2 x h
          · rw [List.mem_singleton.1 h]; exact q
        · intro i x j d hi hd
          by_cases h4 : i < l.length
          · rw [List.getElem?_append_left h4] at hi; exact h3 i x j d hi hd
          · rw [List.getElem?_append_right (by omega)] at hi
            have h5 : i = k := by
              have := (List.getElem?_eq_some_iff.1 hi).1
              simp at this; omega
            subst h5
            have h6 : i - l.length = 0 := by omega
            rw [h6] at hi
            cases hi
            obtain ⟨v, v1, v2⟩ := r j d hd
            refine ⟨v, ?_, v2⟩
            have e : ((⟨b, o, none⟩ : Addr).add (i * sz)).add j = ⟨b, o + i * sz + j, none⟩ := by
              unfold Addr.add
              split <;> split <;> simp_all
            rw [← e]; exact v1
    obtain ⟨l, h1, h2, h3⟩ := gen len (Nat.le_refl _)
    refine ⟨l, h2, ?_⟩
    have h2' : maxLen ≤ 9223372036854775807 := by decide
    have get : ∀ {i : Nat} {x : List D} {j : Nat} {d : D}, (l.map F)[i]? = some x → x[j]? = some d → ∃ v, w.cell? ⟨b, o + i * sz + j, none⟩ = some v ∧ Rep (old w) w v d := fun {i x j d} g1 g2 => by
      rw [List.getElem?_map] at g1
      cases e : l[i]? with
      | none => rw [e] at g1; cases g1
      | some y =>
        rw [e] at g1
        cases g1
        exact h3 i y j d e g2
    refine Rep.sl_of (sz := sz) (by simp [h1]) (fun i j => (w.cell? ⟨b, o + i * sz + j, none⟩).getD (.tuple #[])) (by simp; omega) (by simp; omega) (fun x hx => by
      obtain ⟨y, _, rfl⟩ := List.mem_map.1 hx
      exact hF y) (fun i x j d g1 g2 => ?_) (fun i x j d g1 g2 => ?_)
    · obtain ⟨v, v1, v2⟩ := get g1 g2
      exact ⟨cell_lt v1, by rw [v1]; rfl⟩
    · obtain ⟨v, v1, v2⟩ := get g1 g2
      rw [v1]; exact v2
end
end Go.Proofs.YthpgepillaeldaaDoor.Zz
