/- Lists of rows that came in. -/
import Derived.Test.YthpgepillaeldaaDoorZA11
import Derived.Test.YthpgepillaeldaaDoorZZD
namespace Go.Proofs.YthpgepillaeldaaDoor.Zz
open Go.RowKit
set_option linter.unusedVariables false
set_option linter.unusedSimpArgs false
section
variable {H : Type} {enc : TypeId × Value → H} {P : Program} {w : World} {spare : Nat → Bool} {held : Bool}
theorem wf_i64 {n : Int} (h : (Lit.int .i64 n).wf = true) : -9223372036854775808 ≤ n ∧ n ≤ 9223372036854775807 := by
  simp [Lit.wf, IntKind.min, IntKind.max, IntKind.bits, IntKind.signed] at h
  exact h
/-- A row that came in. -/
theorem tr_cells {e : TypeId} {f0 f1 f2 f3 f4 : Field} {m : Nat} {cs : List Value} {y : DataW H × List MemPlace} (he : P.underlying e = some (.struct #[f0, f1, f2, f3, f4]))
    (h0 : P.underlying f0.type = some (.int .i64)) (h1 : P.underlying f1.type = some (.int .i64)) (h2 : P.underlying f2.type = some .string) (h3 : P.underlying f3.type = some (.int .i64)) (h4 : P.underlying f4.type = some (.int .i64))
    (c0n : P.cellsOf f0.type = 1) (c1n : P.cellsOf f1.type = 1) (c2n : P.cellsOf f2.type = 1) (c3n : P.cellsOf f3.type = 1) (c4n : P.cellsOf f4.type = 1)
    (o0 : f0.offset = 0) (o1 : f1.offset = 1) (o2 : f2.offset = 2) (o3 : f3.offset = 3) (o4 : f4.offset = 4) (hc : P.cellsOf e = 5)
    (h : DataW.trod enc P w 0 spare held m e cs = some y) : ∃ x : Tr, (-9223372036854775808 ≤ x.n ∧ x.n ≤ 9223372036854775807) ∧ cs.length = 5 ∧ ∀ (κ : Kap) (j : Nat) (d : D), (encT5 x)[j]? = some d → ∃ v, cs[j]? = some v ∧ Rep κ w v d := by
  obtain ⟨xs, n, _, _, hl, hlen, hf⟩ := DataW.trod_struct he h
  rw [hc] at hl
  have g0 := hf 0 f0 rfl
  have g1 := hf 1 f1 rfl
  have g2 := hf 2 f2 rfl
  have g3 := hf 3 f3 rfl
  have g4 := hf 4 f4 rfl
  rw [o0, c0n] at g0
  rw [o1, c1n] at g1
  rw [o2, c2n] at g2
  rw [o3, c3n] at g3
  rw [o4, c4n] at g4
  match xs, hlen with
  | [y0, y1, y2, y3, y4], _ =>
    match cs, hl with
    | [v0, v1, v2, v3, v4], _ =>
      obtain ⟨a0, e0, _, w0⟩ := DataW.trod_int h0 g0
      obtain ⟨a1, e1, _, w1⟩ := DataW.trod_int h1 g1
      obtain ⟨a2, e2, _, w2⟩ := DataW.trod_string h2 g2
      obtain ⟨a3, e3, _, w3⟩ := DataW.trod_int h3 g3
      obtain ⟨a4, e4, _, w4⟩ := DataW.trod_int h4 g4
      simp at e0 e1 e2 e3 e4
      subst e0 e1 e2 e3 e4
      refine ⟨⟨a0, a1, a2.data.toList, a3, a4⟩, wf_i64 w3, rfl, fun κ j d hd => ?_⟩
      match j, hd with
      | 0, hd => simp [encT5] at hd; subst hd; exact ⟨_, rfl, .int _ _⟩
      | 1, hd => simp [encT5] at hd; subst hd; exact ⟨_, rfl, .int _ _⟩
      | 2, hd => simp [encT5] at hd; subst hd; exact ⟨_, rfl, rep_string w2⟩
      | 3, hd => simp [encT5] at hd; subst hd; exact ⟨_, rfl, .int _ _⟩
      | 4, hd => simp [encT5] at hd; subst hd; exact ⟨_, rfl, .int _ _⟩
      | _ + 5, hd => simp [encT5] at hd
theorem trs_rep {t e : TypeId} {f0 f1 f2 f3 f4 : Field} {a : Option Addr} {len cap : Nat} {d : DataW H} {ps : List MemPlace} (ht : P.underlying t = some (.slice e)) (he : P.underlying e = some (.struct #[f0, f1, f2, f3, f4]))
    (h0 : P.underlying f0.type = some (.int .i64)) (h1 : P.underlying f1.type = some (.int .i64)) (h2 : P.underlying f2.type = some .string) (h3 : P.underlying f3.type = some (.int .i64)) (h4 : P.underlying f4.type = some (.int .i64))
    (c0n : P.cellsOf f0.type = 1) (c1n : P.cellsOf f1.type = 1) (c2n : P.cellsOf f2.type = 1) (c3n : P.cellsOf f3.type = 1) (c4n : P.cellsOf f4.type = 1)
    (o0 : f0.offset = 0) (o1 : f1.offset = 1) (o2 : f2.offset = 2) (o3 : f3.offset = 3) (o4 : f4.offset = 4) (hc : P.cellsOf e = 5)
    (h : DataW.Trod enc P w 0 spare held t (.slice a len cap) d ps) : ∃ l : List Tr, trOk l ∧ Rep (old w) w (.slice a len cap) (.sl (encTs l)) :=
  rows_rep encT5 (fun x => -9223372036854775808 ≤ x.n ∧ x.n ≤ 9223372036854775807) ht hc (by omega) (fun _ => rfl) (fun m cs y hy => by
    obtain ⟨x, q, _, r⟩ := tr_cells he h0 h1 h2 h3 h4 c0n c1n c2n c3n c4n o0 o1 o2 o3 o4 hc hy
    exact ⟨x, q, r (old w)⟩) h
end
end Go.Proofs.YthpgepillaeldaaDoor.Zz
