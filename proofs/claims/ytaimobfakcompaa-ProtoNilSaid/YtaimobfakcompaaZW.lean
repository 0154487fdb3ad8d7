/- From a contract to a row: what a law's call leaves behind. -/
import Derived.Test.YtaimobfakcompaaZV
import Derived.Below
set_option linter.unusedVariables false
set_option linter.unusedSimpArgs false
namespace Go.Proofs.Ytaimobfakcompaa.Zz
open Go.RowKit

/-- All that was there does not change. -/
def old (w : World) : Kap := { imm := fun b => b < w.heap.size, loc := fun _ => none }
theorem old_inv (w : World) : Inv (old w) .emp w :=
  ⟨fun b h => h, fun i p h => (by cases h), ⟨0, fun _ _ => rfl⟩, fun i o h => (by cases h), fun i j oi oj pi pj h => (by cases h)⟩

theorem law_of {P : Program} {f : FuncId} {args : List D} (c : PCall P f args (.bool true)) {vs : Array Value} {w : World} (hr : RepL (old w) w vs.toList args) :
    Calls P f vs w fun e w' => e = .returned (.bool true) ∧ Below w.heap.size w w' :=
  (c.2 (old w) w vs (old_inv w) hr).mono fun e w' ⟨o, h', κ', e1, r, i, ev⟩ => by
    subst e1
    cases r with
    | ret r =>
      cases r
      refine ⟨rfl, ev.os, ev.tape, ev.output, ev.size, fun k hk => ev.blocks k hk fun ho => ?_⟩
      obtain ⟨id, o, p, h, _⟩ := ho
      simp at h

theorem rep_string {κ : Kap} {w : World} {s : ByteArray} (h : s.size ≤ maxLen) : Rep κ w (.string s) (.str s.data.toList) := by
  have := Rep.str (κ := κ) (w := w) s.data.toList (by
    have : s.data.toList.length = s.size := by simp
    rw [this]
    have h2 : maxLen ≤ 9223372036854775807 := by decide
    omega)
  simpa using this
end Go.Proofs.Ytaimobfakcompaa.Zz
