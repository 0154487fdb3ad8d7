/- From a contract to a row: what a law's call leaves behind, and its arguments as plain data. -/
import Derived.Test.YthpgepillaeldaaDoorZV
import Derived.Below
import Derived.ChangeSlices
import Derived.ChangeSame
import Derived.Deep.Strs
set_option linter.unusedVariables false
set_option linter.unusedSimpArgs false
namespace Go.Proofs.YthpgepillaeldaaDoor.Zz
open Go.RowKit

/-- All that was there does not change. -/
def old (w : World) : Kap := { imm := fun b => b < w.heap.size, loc := fun _ => none }
theorem old_inv [Globs] (w : World) (hg : GlobRep (old w) w) : Inv (old w) .emp w :=
  ⟨fun b h => h, fun i p h => (by cases h), ⟨0, fun _ _ => rfl⟩, fun i o h => (by cases h), fun i j oi oj pi pj h => (by cases h), hg⟩

theorem law_of [Globs] {P : Program} {f : FuncId} {args : List D} (c : PCall P f args (.bool true)) {vs : Array Value} {w : World} (hg : GlobRep (old w) w) (hr : RepL (old w) w vs.toList args) :
    Calls P f vs w fun e w' => e = .returned (.bool true) ∧ Below w.heap.size w w' :=
  (c.2 (old w) w vs (old_inv w hg) hr).mono fun e w' ⟨o, h', κ', e1, r, i, ev⟩ => by
    subst e1
    cases r with
    | ret r =>
      cases r
      refine ⟨rfl, ev.os, ev.tape, ev.output, ev.size, fun k hk => ev.blocks k hk fun ho => ?_⟩
      obtain ⟨id, o, p, h, _⟩ := ho
      simp at h

theorem rep_string {κ : Kap} {w : World} {s : ByteArray} (h : s.size ≤ maxLen) : Rep κ w (.string s) (.str s.data.toList) := by
  have := Rep.str (κ := κ) (w := w) s.data.toList (by
    have : s.data.toList.length = s.size := by simp
    rw [this]
    have h2 : maxLen ≤ 9223372036854775807 := by decide
    omega)
  simpa using this

theorem cell_lt {w : World} {b o : Nat} {v : Value} (h : w.cell? ⟨b, o, none⟩ = some v) : b < w.heap.size := by
  simp only [World.cell?] at h
  cases e : w.heap[b]? with
  | none => simp [e] at h
  | some x => exact (Array.getElem?_eq_some_iff.1 e).1

/-- A slice of single cells that came in. -/
theorem rep_slice1 {w : World} {a : Addr} {len cap : Nat} (f : Nat → Value) (g : Nat → D) (hl : len ≤ cap) (hm : cap ≤ maxLen) (hc : ∀ i, i < len → w.cell? (a.add i) = some (f i)) (hr : ∀ i, i < len → Rep (old w) w (f i) (g i)) :
    Rep (old w) w (.slice (some a) len cap) (.sl ((List.range len).map fun i => [g i])) := by
  by_cases h0 : len = 0
  · subst h0; exact .slnil (fun h => by cases h)
  · obtain ⟨b, o, sp⟩ := a
    have hs : sp = none := by simpa [Addr.add] using World.cell?_spot (hc 0 (by omega))
    subst hs
    have h2 : maxLen ≤ 9223372036854775807 := by decide
    have get : ∀ {i : Nat} {x : List D} {j : Nat} {d : D}, ((List.range len).map fun i => [g i])[i]? = some x → x[j]? = some d → i < len ∧ j = 0 ∧ d = g i := fun {i x j d} h1 h3 => by
      rw [List.getElem?_map] at h1
      by_cases hi : i < len
      · rw [List.getElem?_range hi] at h1
        simp only [Option.map_some, Option.some.injEq] at h1
        subst h1
        cases j with
        | zero => simp at h3; exact ⟨hi, rfl, h3.symm⟩
        | succ j => simp at h3
      · rw [List.getElem?_eq_none (by simp; omega)] at h1; cases h1
    have hcell : ∀ i, i < len → w.cell? ⟨b, o + i, none⟩ = some (f i) := fun i hi => by
      have := hc i hi
      unfold Addr.add at this
      split at this
      · rename_i e; subst e; simpa using this
      · simpa using this
    refine Rep.sl_of (sz := 1) (by simp) (fun i _ => f i) (by simp; omega) (by simp; omega) (by simp) (fun i x j d h1 h3 => ?_) (fun i x j d h1 h3 => ?_)
    · obtain ⟨hi, rfl, rfl⟩ := get h1 h3
      have := hcell i hi
      exact ⟨cell_lt this, by simpa using this⟩
    · obtain ⟨hi, rfl, rfl⟩ := get h1 h3
      exact hr i hi

section
variable {H : Type} {enc : TypeId × Value → H} {P : Program} {w : World} {spare : Nat → Bool} {held : Bool}
theorem ints_rep {t e : TypeId} {k : IntKind} {a : Option Addr} {len cap : Nat} {d : DataW H} {ps : List MemPlace} (ht : P.underlying t = some (.slice e)) (he : P.underlying e = some (.int k)) (hc : P.cellsOf e = 1)
    (h : DataW.Trod enc P w 0 spare held t (.slice a len cap) d ps) : ∃ l : List Int, (∀ n ∈ l, (Lit.int k n).wf = true) ∧ Rep (old w) w (.slice a len cap) (.sl (l.map fun n => [.int k n])) := by
  obtain ⟨fuel, hf⟩ := h
  rcases Go.ChangeShapes.open_ints ht he hc hf with ⟨hcs, _⟩ | ⟨x, l, c, zs, hcs, _, hl, hm, hz, _, hcell, hwz⟩
  · simp [Value.cells] at hcs
    obtain ⟨rfl, rfl, rfl⟩ := hcs
    exact ⟨[], by simp, .slnil (fun _ => rfl)⟩
  · simp [Value.cells] at hcs
    obtain ⟨rfl, rfl, rfl⟩ := hcs
    have hlz : len ≤ zs.length := by rw [hz]; split <;> omega
    refine ⟨(List.range len).map fun i => zs.getD i 0, ?_, ?_⟩
    · intro n hn
      obtain ⟨i, hi, rfl⟩ := List.mem_map.1 hn
      have hi := List.mem_range.1 hi
      apply hwz
      rw [List.getD_eq_getElem?_getD, List.getElem?_eq_getElem (by omega)]
      exact List.getElem_mem _
    · rw [List.map_map]
      exact rep_slice1 (fun i => .int k (zs.getD i 0)) (fun i => .int k (zs.getD i 0)) hl hm (fun i hi => hcell i (by omega)) (fun i hi => .int k _)
theorem strs_rep {t e : TypeId} {a : Option Addr} {len cap : Nat} {d : DataW H} {ps : List MemPlace} (ht : P.underlying t = some (.slice e)) (he : P.underlying e = some .string) (hc : P.cellsOf e = 1)
    (h : DataW.Trod enc P w 0 spare held t (.slice a len cap) d ps) : ∃ l : List (List UInt8), Rep (old w) w (.slice a len cap) (.sl (l.map fun s => [.str s])) := by
  obtain ⟨fuel, hf⟩ := h
  rcases Go.Deep.open_strs ht he hc hf with ⟨hcs, _⟩ | ⟨x, l, c, m, Sx, hcs, _, hl, hm, hz, _, hcell⟩
  · simp [Value.cells] at hcs
    obtain ⟨rfl, rfl, rfl⟩ := hcs
    exact ⟨[], .slnil (fun _ => rfl)⟩
  · simp [Value.cells] at hcs
    obtain ⟨rfl, rfl, rfl⟩ := hcs
    have hlz : len ≤ m := by rw [hz]; split <;> omega
    refine ⟨(List.range len).map fun i => (Sx i).data.toList, ?_⟩
    · rw [List.map_map]
      exact rep_slice1 (fun i => .string (Sx i)) (fun i => .str (Sx i).data.toList) hl hm (fun i hi => (hcell i (by omega)).1) (fun i hi => rep_string (hcell i (by omega)).2)
/-- A struct of two whole numbers that came in. -/
theorem pair_rep {κ : Kap} {t : TypeId} {f0 f1 : Field} {k0 k1 : IntKind} {cs : Array Value} {d : DataW H} {ps : List MemPlace} (ht : P.underlying t = some (.struct #[f0, f1])) (h0 : P.underlying f0.type = some (.int k0)) (h1 : P.underlying f1.type = some (.int k1))
    (hc : P.cellsOf t = 2) (c0 : P.cellsOf f0.type = 1) (c1 : P.cellsOf f1.type = 1) (o0 : f0.offset = 0) (o1 : f1.offset = 1)
    (h : DataW.Trod enc P w 0 spare held t (.agg cs) d ps) : ∃ n m : Int, (Lit.int k0 n).wf = true ∧ (Lit.int k1 m).wf = true ∧ Rep κ w (.agg cs) (.agg [.int k0 n, .int k1 m]) := by
  obtain ⟨fuel, hf⟩ := h
  obtain ⟨y0, y1, n, _, hl, g0, g1⟩ := Go.ChangeShapes.trod_struct2 ht hf
  rw [o0, c0] at g0
  rw [o1, c1] at g1
  rw [hc] at hl
  obtain ⟨a, e0, _, w0⟩ := DataW.trod_int h0 g0
  obtain ⟨b, e1, _, w1⟩ := DataW.trod_int h1 g1
  simp only [Value.cells] at hl e0 e1
  have hcs : cs = #[.int k0 a, .int k1 b] := by
    obtain ⟨l⟩ := cs
    match l, hl with
    | [u, v], _ =>
      simp at e0 e1
      rw [e0, e1]
  subst hcs
  refine ⟨a, b, w0, w1, .agg rfl fun i d hd => ?_⟩
  match i, hd with
  | 0, hd => simp at hd; subst hd; exact .int _ _
  | 1, hd => simp at hd; subst hd; exact .int _ _
end
end Go.Proofs.YthpgepillaeldaaDoor.Zz
