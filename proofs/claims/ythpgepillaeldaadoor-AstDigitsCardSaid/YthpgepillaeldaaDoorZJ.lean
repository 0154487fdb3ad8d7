/- The instructions that look at memory, or write it. -/
import Derived.Test.YthpgepillaeldaaDoorZI
import Derived.Laws.Rows
import Derived.Deep.AppendSrc
set_option linter.unusedVariables false
set_option linter.unusedSimpArgs false
namespace Go.Proofs.YthpgepillaeldaaDoor.Zz
variable {P : Program} {κ : Kap} {h : AHeap} {w : World} {σ : Fr} {n : Nat} {a : Act}

theorem loadVar_sound {t : TypeId} {k : Option Nat} (hs : shapeOf P t = some k) {ad : Addr} {ds : List D} {off : Nat} {d : D} (e : partD ds off k = some d)
    (hc : ∀ j d, ds[off + j]? = some d → ∃ v, w.cell? (ad.add j) = some v ∧ Rep κ w v d) : ∃ v, (loadVar t ad).run P w = .ok v w ∧ Rep κ w v d := by
  cases k with
  | none =>
    obtain ⟨h1, _⟩ := run_isAgg_none hs w
    simp only [partD] at e
    obtain ⟨v, e1, r⟩ := hc 0 d (by simpa using e)
    have e1' : w.cell? ad = some v := by simpa [Addr.add] using e1
    exact ⟨v, by simp [loadVar, h1, e1'], r⟩
  | some m =>
    obtain ⟨h1, h2⟩ := run_isAgg_some hs w
    simp only [partD] at e
    split at e
    · rename_i hl
      cases e
      have hex : ∀ j, ∃ v, j < m → w.cell? (ad.add j) = some v ∧ ∀ d, ds[off + j]? = some d → Rep κ w v d := fun j => by
        by_cases hj : j < m
        · have hlt : off + j < ds.length := by omega
          obtain ⟨v, e1, r⟩ := hc j ds[off + j] (by simp [hlt])
          exact ⟨v, fun _ => ⟨e1, fun d hd => by simp [hlt] at hd; subst hd; exact r⟩⟩
        · exact ⟨undef, fun h => absurd h hj⟩
      obtain ⟨f, hf⟩ := Classical.axiomOfChoice hex
      have hr := run_loadCells (P := P) w ad m f fun j hj => (hf j hj).1
      refine ⟨.agg ((List.range m).map f).toArray, by simp [loadVar, h1, run_sizeOf h2, hr], RepL.agg ?_⟩
      refine RepL.of_get (by simp; omega) fun i d hd => ?_
      rw [List.getElem?_take] at hd
      split at hd
      · rename_i hi
        rw [List.getElem?_drop] at hd
        exact ⟨f i, by simp [hi], (hf i hi).2 d hd⟩
      · cases hd
    · cases e

theorem loadD_sound [Globs] (hi : Inv κ h w) {t : TypeId} {k : Option Nat} (hs : shapeOf P t = some k) {u : Value} {x d : D} (r : Rep κ w u x) (e : loadD h k x = some d) :
    ∃ v, (Instr.loadAt t u).run P w = .ok v w ∧ Rep κ w v d := by
  unfold loadD at e
  split at e
  · split at e
    · rename_i ds ho
      split at e
      · rename_i hv1
        subst hv1
        cases r with
        | ptr hl hv ha =>
        rename_i id off _ p a
        obtain ⟨p', hp, hr⟩ := hi.obj _ _ ho
        rw [hl] at hp
        cases hp
        obtain ⟨h1, h2, h3, cs, ty, h4, h5, h6⟩ := hr
        have had := ha h1
        subst had
        obtain ⟨v, e1, e2⟩ := loadVar_sound (P := P) (κ := κ) (w := w) hs e (ad := ⟨p.blk, p.base + off, none⟩) fun j d hd => by
          obtain ⟨v, g1, g2⟩ := h6 _ d hd
          refine ⟨v, ?_, g2⟩
          rw [add_off, cell_of_row w _ _ cs ty _ h4, ← g1, h2]
          congr 1
          omega
        exact ⟨v, by simp [Instr.loadAt, Instr.sureAddr, e1], e2⟩
      · cases e
    · cases e
  · cases r with
    | eptr f hb hc hr =>
    rename_i cells off b base
    obtain ⟨v, e1, e2⟩ := loadVar_sound (P := P) (κ := κ) (w := w) hs e (ad := ⟨b, base + off, none⟩) fun j d hd => ⟨f _, by rw [add_off, Nat.add_assoc]; exact hc _ d hd, hr _ d hd⟩
    exact ⟨v, by simp [Instr.loadAt, Instr.sureAddr, e1], e2⟩
  · split at e
    · rename_i sz ver' xs fz ho
      split at e
      · rename_i hv1
        subst hv1
        split at e
        · rename_i x hx
          cases r with
          | rptr hl hv ha =>
          rename_i p a
          obtain ⟨p', hp, hr⟩ := hi.obj _ _ ho
          rw [hl] at hp
          cases hp
          obtain ⟨h1, h1', h2, h3, h4, h5, h5', h6, cs, ty, h7, h8, h9⟩ := hr
          have had := ha h1
          obtain ⟨v, e1, e2⟩ := loadVar_sound (P := P) (κ := κ) (w := w) hs e (ad := a) fun j d hd => by
            obtain ⟨v, g1, g2⟩ := h9 _ x _ d hx hd
            refine ⟨v, ?_, g2⟩
            rw [had, add_off, cell_of_row w _ _ cs ty _ h7, ← g1, h2]
            congr 1
            omega
          exact ⟨v, by simp [Instr.loadAt, Instr.sureAddr, e1], e2⟩
        · cases e
      · cases e
    · cases e
  · cases e

/-! ### Elements -/
/-- The elements of a slice, cell by cell. -/
theorem elemsOf_sound [Globs] (hi : Inv κ h w) {u : Value} {x : D} {ys : List (List D)} (r : Rep κ w u x) (e : elemsOf h x = some ys) {sz : Nat} (hsz : ∀ y ∈ ys, y.length = sz) (hpos : 0 < sz) :
    (ys = [] ∧ ∃ ba cap, u = .slice ba 0 cap ∧ (ba = none → cap = 0)) ∨ ∃ b o cap, u = .slice (some ⟨b, o, none⟩) ys.length cap ∧ ∀ i y j d, ys[i]? = some y → y[j]? = some d → ∃ v, w.cell? ⟨b, o + i * sz + j, none⟩ = some v ∧ Rep κ w v d := by
  unfold elemsOf at e
  split at e
  · cases e; cases r; exact .inl ⟨rfl, none, 0, rfl, fun _ => rfl⟩
  · cases e
    cases r with
    | slnil hb => exact .inl ⟨rfl, _, _, rfl, hb⟩
    | sl f hn hcap hsz' hc hr =>
      rename_i b o sz' cap
      refine .inr ⟨b, o, cap, rfl, fun i y j d hy hd => ?_⟩
      have : sz' = sz := by rw [← hsz' y (List.mem_of_getElem? hy), hsz y (List.mem_of_getElem? hy)]
      subst this
      exact ⟨f i j, (hc i y j d hy hd).2, hr i y j d hy hd⟩
  · split at e
    · rename_i r0 ver off len hx sz' ver' xs fz ho
      split at e
      · rename_i hv1
        obtain ⟨hv1, hle⟩ := hv1
        subst hv1
        cases e
        cases r with
        | row hl hv hn hcap ha =>
        rename_i cap p ad
        obtain ⟨p', hp, hr⟩ := hi.obj _ _ ho
        rw [hl] at hp
        cases hp
        obtain ⟨h1, h1', h2, h3, h4, h5, h5', h6, cs, ty, h7, h8, h9⟩ := hr
        have hlen : ((xs.drop off).take len).length = len := by simp; omega
        rcases ha h1 with hc0 | ⟨had, hcc⟩
        · have hl0 : len = 0 := by omega
          subst hl0
          exact .inl ⟨by simp, some ad, cap, rfl, fun h => by cases h⟩
        · subst had
          refine .inr ⟨p.blk, p.base + off * p.sz, cap, by rw [hlen], fun i y j d hy hd => ?_⟩
          have hmem := List.mem_of_getElem? hy
          rw [List.getElem?_take] at hy
          split at hy
          · rw [List.getElem?_drop] at hy
            have hss : p.sz = sz := by
              rw [h2, ← h6 y (List.mem_of_getElem? hy), hsz y hmem]
            obtain ⟨v, g1, g2⟩ := h9 _ y j d hy hd
            refine ⟨v, ?_, g2⟩
            rw [cell_of_row w _ _ cs ty _ h7, ← g1, hss, show sz' = sz by rw [← h2, hss], Nat.add_mul]
            congr 1
            omega
          · cases hy
      · cases e
    · cases e
  · split at e
    · rename_i id off len hx ds ho
      split at e
      · rename_i hle
        cases e
        cases r with
        | csl hl hv hn hcap ha =>
        rename_i cap p ad
        obtain ⟨p', hp, hr⟩ := hi.obj _ _ ho
        rw [hl] at hp
        cases hp
        obtain ⟨h1, h2, h3, cs, ty, h4, h5, h6⟩ := hr
        have hlen : (((ds.drop off).take len).map fun d => [d]).length = len := by simp; omega
        rcases ha h1 with hc0 | had
        · have hl0 : len = 0 := by omega
          subst hl0
          exact .inl ⟨by simp, some ad, cap, rfl, fun h => by cases h⟩
        · subst had
          refine .inr ⟨p.blk, p.base + off, cap, by rw [hlen], fun i y j d hy hd => ?_⟩
          have hmem := List.mem_of_getElem? hy
          simp only [List.getElem?_map, Option.map_eq_some_iff] at hy
          obtain ⟨d0, hy, rfl⟩ := hy
          have hs1 : sz = 1 := by rw [← hsz _ hmem]; rfl
          subst hs1
          cases j with
          | succ j => simp at hd
          | zero =>
            simp at hd
            subst hd
            rw [List.getElem?_take] at hy
            split at hy
            · rw [List.getElem?_drop] at hy
              obtain ⟨v, g1, g2⟩ := h6 _ d0 hy
              refine ⟨v, ?_, g2⟩
              rw [cell_of_row w _ _ cs ty _ h4, ← g1]
              congr 1
              omega
            · cases hy
      · cases e
    · cases e
  · cases e
end Go.Proofs.YthpgepillaeldaaDoor.Zz
