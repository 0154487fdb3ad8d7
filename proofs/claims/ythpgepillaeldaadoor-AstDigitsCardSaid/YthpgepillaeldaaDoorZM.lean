/- Literals of slices, make, append, bytes and strings. -/
import Derived.Test.YthpgepillaeldaaDoorZL
import Derived.Deep.AppendSrc
import Derived.Deep.OwnRows
import Derived.Laws.MakeOwn
set_option linter.unusedVariables false
set_option linter.unusedSimpArgs false
namespace Go.Proofs.YthpgepillaeldaaDoor.Zz
variable {P : Program} {κ : Kap} {h : AHeap} {w : World} {σ : Fr} {n : Nat} {a : Act} {K E : D → AHeap → Prop}

theorem elemOfSl_spec {t e : TypeId} (h : elemOfSl P t = some e) : P.underlying t = some (.slice e) := by
  unfold elemOfSl at h
  split at h <;> cases h
  assumption

theorem sizeOf_info {t : TypeId} {k : Nat} (e : sizeOfT P t = some k) : ∃ i, P.info? t = some i ∧ i.size = k := by
  unfold sizeOfT at e
  cases e1 : P.info? t with
  | none => simp [e1] at e
  | some i => simp [e1] at e; exact ⟨i, rfl, e⟩

/-- A slice's literal: the cells. -/
theorem buildSlice_cells {t e : TypeId} {sz m : Nat} {z : D} (ht : P.underlying t = some (.slice e)) (hs : sizeOfT P e = some sz) (hz : zeroOfT P e = some z) (hb : m * sz ≤ 16777216) (hzl : (cellsD z).length = sz) (hpos : 0 < sz)
    {ps : List (Nat × Value)} {qs : List (Nat × D)} (hl : ps.length = qs.length) (hq : ∀ (i : Nat) (j : Nat) (v : Value), ps[i]? = some (j, v) → ∃ d, qs[i]? = some (j, d) ∧ Rep κ w v d)
    {xs : List (List D)} (hx : buildRows sz (rowsOf sz (cellsD z) m) qs = some xs) :
    ∃ cs, (Instr.buildSlice t m ps.toArray).run P w = .ok (.slice (some ⟨w.heap.size, 0, none⟩) m m) (w.alloc (.cells cs e)) ∧ RepL κ w cs.toList xs.flatten ∧ (∀ x ∈ xs, x.length = sz) ∧ xs.length = m := by
  obtain ⟨zv, z1, z2, _⟩ := zero_cells hz κ w
  have hrep : ∀ x ∈ rowsOf sz (cellsD z) m, x.length = sz := by
    intro x hx
    rw [List.eq_of_mem_replicate hx, hzl]
  obtain ⟨b1, b2, b3⟩ := buildRows_flat qs _ xs hrep hx
  have hz0 := zeros_rep z2 m
  rw [hzl] at hz0
  have b1' : buildD (List.replicate m (cellsD z)).flatten (qs.map fun p => (p.1 * sz, sz, p.2)) = some xs.flatten := b1
  obtain ⟨cs, f1, f2⟩ := fill_sound (place := fun i => some (i * sz, sz)) (cells := (Array.range (m * sz)).map (zv.cells[· % zv.cells.size]!)) hz0 ps (qs.map fun p => (p.1 * sz, sz, p.2)) (by simpa using hl) (fun i j v hv => by
    obtain ⟨d, g1, g2⟩ := hq i j v hv
    exact ⟨_, sz, d, by simp [g1], rfl, g2⟩) _ b1'
  refine ⟨cs, ?_, f2, b2, by simpa [rowsOf] using b3⟩
  have h1 : ¬ (m * sz > 2 ^ 24) := by omega
  simp only [Instr.buildSlice, Sem.run_bind, run_underlying ht, Result.andThen, run_sizeOf hs]
  rw [if_neg h1]
  by_cases h0 : m * sz = 0
  · have hm : m = 0 := by
      rcases Nat.mul_eq_zero.1 h0 with h | h
      · exact h
      · omega
    subst hm
    simp only [Nat.zero_mul, if_true, Sem.run_pure]
    have hcs : (Array.range 0).map (fun i => (#[] : Array Value)[i % (#[] : Array Value).size]!) = (Array.range (0 * sz)).map (zv.cells[· % zv.cells.size]!) := by simp
    rw [← hcs] at f1
    simp only [Sem.run_bind, Sem.run_pure, Result.andThen, f1, newRow, run_newObj]
    rfl
  · rw [if_neg h0]
    simp only [Sem.run_bind, z1, Result.andThen, Sem.run_pure, f1, newRow, run_newObj]
    rfl

theorem flat_get {cs : Array Value} {xs : List (List D)} {sz : Nat} (h : RepL κ w cs.toList xs.flatten) (hsz : ∀ x ∈ xs, x.length = sz) :
    ∀ (i : Nat) (x : List D) (j : Nat) (d : D), xs[i]? = some x → x[j]? = some d → ∃ v, cs[i * sz + j]? = some v ∧ Rep κ w v d := fun i x j d h1 h2 => arr_get h _ d (flatten_get hsz h1 h2)

theorem makeSlice_sound [Globs] (hi : Inv κ h w) {t e : TypeId} {by_ : Nat} {z : D} (ht : P.underlying t = some (.slice e)) (hs : sizeOfT P e = some 1) (hb : bytesOfT P e = some by_) (hz : zeroOfT P e = some z) (hzo : cellOk z = true) (hpos : 0 < by_)
    {k1 k2 : IntKind} {l : Int} (h0 : 0 ≤ l) (hbd : l * by_ ≤ 140737488355328)
    (hk : ∀ id, h.f id = none → K (.row id (l.toNat + 2) 0 l.toNat) (h.set id (.row 1 (l.toNat + 2) (rowsOf 1 [z] l.toNat) false))) :
    UponA P κ h w K E ((do let x ← Instr.makeSlice t (.int k1 l) (.int k2 l); pure (Next.value x) : Sem Next).run P w) := by
  obtain ⟨zv, z1, z2, i, hi1, hi2⟩ := run_zeroValue hz κ w
  obtain ⟨o1, o2⟩ := rep_oneCell z2 hzo
  obtain ⟨m, rfl⟩ := Int.eq_ofNat_of_zero_le h0
  simp only [Int.toNat_natCast] at hk
  have hbd' : by_ * m ≤ 281474976710656 := by
    have : (m : Int) * (by_ : Int) = ((by_ * m : Nat) : Int) := by rw [Nat.mul_comm]; simp
    omega
  have hm : m ≤ 281474976710656 := Nat.le_trans (Nat.le_mul_of_pos_left _ hpos) hbd'
  have hinfo : (P.info? e).map (fun i => (i.zero, i.size, i.bytes)) = some (some zv, 1, by_) := by
    obtain ⟨i', e1, e2⟩ := sizeOf_info hs
    rw [hi1] at e1
    cases e1
    have hby : i.bytes = by_ := by
      unfold bytesOfT at hb
      rw [hi1] at hb
      simpa using hb
    simp [hi1, hi2, e2, hby]
  have hrun := run_make_row' t e zv by_ ht hinfo o2 k1 k2 m hbd' (by omega) w
  simp only [Sem.run_bind, hrun, Result.andThen, Sem.run_pure]
  obtain ⟨κ', h', d, a1, a2, a3, a4⟩ := newRow_obj (K := K) hi e (cs := madeCells #[zv] m) (xs := rowsOf 1 [z] m) (sz := 1) (cap := m) (fun x hx => by rw [List.eq_of_mem_replicate hx]; rfl) (by simp [rowsOf]) (by omega) (by simp [size_madeCells])
    (fun i x j d hx hj => by
      have hx' := List.eq_of_mem_replicate (List.mem_of_getElem? hx)
      subst hx'
      have him : i < m := by
        have := (List.getElem?_eq_some_iff.1 hx).1
        simpa [rowsOf] using this
      cases j with
      | succ j => simp at hj
      | zero =>
        simp at hj
        subst hj
        exact ⟨zv, by simp [madeCells, him, Nat.mod_one], z2⟩)
    (by simpa [rowsOf] using hk)
  refine ⟨κ', h', d, a1, ?_, a3, a4⟩
  simpa [rowsOf] using a2
end Go.Proofs.YthpgepillaeldaaDoor.Zz
