/- Rows: new ones, appends. -/
import Derived.Test.YthpgepillaeldaaDoorZK
set_option linter.unusedVariables false
set_option linter.unusedSimpArgs false
namespace Go.Proofs.YthpgepillaeldaaDoor.Zz
variable {P : Program} {κ : Kap} {h : AHeap} {w : World} {σ : Fr} {n : Nat} {a : Act} {K E : D → AHeap → Prop}

theorem flatten_length {sz : Nat} : ∀ {xs : List (List D)}, (∀ x ∈ xs, x.length = sz) → xs.flatten.length = xs.length * sz
  | [], _ => by simp
  | x :: xs, h => by
    have h1 := h x (by simp)
    have h2 := flatten_length (xs := xs) fun y hy => h y (by simp [hy])
    simp only [List.flatten_cons, List.length_append, h1, h2, List.length_cons]
    rw [Nat.add_mul, Nat.one_mul, Nat.add_comm]
theorem flatten_get {sz : Nat} : ∀ {xs : List (List D)}, (∀ x ∈ xs, x.length = sz) → ∀ {i j : Nat} {x : List D} {d : D}, xs[i]? = some x → x[j]? = some d → xs.flatten[i * sz + j]? = some d
  | [], _, i, j, x, d, h1, _ => by simp at h1
  | y :: xs, h, i, j, x, d, h1, h2 => by
    have hy := h y (by simp)
    cases i with
    | zero =>
      simp at h1
      subst h1
      have hj : j < y.length := (List.getElem?_eq_some_iff.1 h2).1
      rw [List.flatten_cons, Nat.zero_mul, Nat.zero_add, List.getElem?_append_left hj]
      exact h2
    | succ i =>
      have := flatten_get (xs := xs) (fun z hz => h z (by simp [hz])) (i := i) (by simpa using h1) h2
      rw [List.flatten_cons, List.getElem?_append_right (by rw [hy, Nat.add_mul]; omega), hy, ← this]
      congr 1
      rw [Nat.add_mul]
      omega
theorem setAt_append_right (as bs : List D) (off : Nat) (ds : List D) : setAt (as ++ bs) (as.length + off) ds = as ++ setAt bs off ds := by
  induction ds generalizing bs off with
  | nil => rfl
  | cons d ds ih =>
    rw [setAt, setAt]
    have : (as ++ bs).set (as.length + off) d = as ++ bs.set off d := by
      rw [List.set_append_right _ _ (by omega)]
      congr 2
      omega
    rw [this, Nat.add_assoc, ih]
theorem setAt_append_left (as bs ds : List D) (h : as.length = ds.length) : setAt (as ++ bs) 0 ds = ds ++ bs := by
  apply List.ext_getElem?
  intro i
  rw [setAt_get]
  by_cases c : i < ds.length
  · rw [if_pos (by simp; omega), List.getElem?_append_left c]
    simp
  · rw [if_neg (by omega), List.getElem?_append_right (by omega), List.getElem?_append_right (by omega), h]
theorem flatten_set {sz : Nat} : ∀ {xs : List (List D)}, (∀ x ∈ xs, x.length = sz) → ∀ {i : Nat} {y : List D}, i < xs.length → y.length = sz → (xs.set i y).flatten = setAt xs.flatten (i * sz) y
  | [], _, i, y, h1, _ => by simp at h1
  | x :: xs, h, i, y, h1, h2 => by
    have hx := h x (by simp)
    cases i with
    | zero =>
      simp only [List.set_cons_zero, List.flatten_cons, Nat.zero_mul]
      rw [setAt_append_left _ _ _ (by omega)]
    | succ i =>
      have := flatten_set (xs := xs) (fun z hz => h z (by simp [hz])) (i := i) (y := y) (by simpa using h1) h2
      simp only [List.set_cons_succ, List.flatten_cons, this]
      rw [show (i + 1) * sz = x.length + i * sz by rw [hx, Nat.add_mul, Nat.one_mul, Nat.add_comm], setAt_append_right]

theorem buildRows_flat {sz : Nat} : ∀ (ps : List (Nat × D)) (xs ys : List (List D)), (∀ x ∈ xs, x.length = sz) → buildRows sz xs ps = some ys →
    buildD xs.flatten (ps.map fun p => (p.1 * sz, sz, p.2)) = some ys.flatten ∧ (∀ y ∈ ys, y.length = sz) ∧ ys.length = xs.length
  | [], xs, ys, h, e => by simp [buildRows] at e; subst e; exact ⟨by simp [buildD], h, rfl⟩
  | (i, d) :: ps, xs, ys, h, e => by
    simp only [buildRows] at e
    split at e
    · rename_i hc
      obtain ⟨c1, c2, c3⟩ := hc
      obtain ⟨h1, h2, h3⟩ := buildRows_flat ps _ ys (fun x hx => by
        rcases List.mem_or_eq_of_mem_set hx with hx | hx
        · exact h x hx
        · rw [hx]; exact c1) e
      refine ⟨?_, h2, by simpa using h3⟩
      simp only [List.map_cons, buildD]
      have hle : i * sz + sz ≤ xs.flatten.length := by
        rw [flatten_length h]
        calc i * sz + sz = (i + 1) * sz := by rw [Nat.add_mul, Nat.one_mul]
          _ ≤ xs.length * sz := Nat.mul_le_mul_right _ c2
      rw [if_pos ⟨c1, hle, c3⟩, ← flatten_set h c2 c1]
      exact h1
    · cases e

theorem replicate_flatten (zs : List D) (m : Nat) : ∀ k, k < m * zs.length → (List.replicate m zs).flatten[k]? = zs[k % zs.length]? := by
  induction m with
  | zero => intro k hk; omega
  | succ m ih =>
    intro k hk
    rw [List.replicate_succ, List.flatten_cons]
    by_cases c : k < zs.length
    · rw [List.getElem?_append_left c, Nat.mod_eq_of_lt c]
    · rw [List.getElem?_append_right (by omega), ih _ (by rw [Nat.add_mul] at hk; omega)]
      have : k % zs.length = (k - zs.length) % zs.length := by
        rw [Nat.mod_eq_sub_mod (by omega)]
      rw [this]

/-- The cells of so many zero elements. -/
theorem zeros_rep {zs : List D} {zv : Array Value} (hz : RepL κ w zv.toList zs) (m : Nat) : RepL κ w (((Array.range (m * zs.length)).map (zv[· % zv.size]!)).toList) (List.replicate m zs).flatten := by
  have hl := hz.length
  simp at hl
  refine RepL.of_get ?_ fun i d hd => ?_
  · rw [flatten_length (sz := zs.length) (by intro x hx; rw [List.eq_of_mem_replicate hx])]
    simp
  · have hi : i < m * zs.length := by
      have := (List.getElem?_eq_some_iff.1 hd).1
      rw [flatten_length (sz := zs.length) (by intro x hx; rw [List.eq_of_mem_replicate hx])] at this
      simpa using this
    rw [replicate_flatten zs m i hi] at hd
    obtain ⟨v, e, r⟩ := hz.get _ _ hd
    refine ⟨v, ?_, r⟩
    have e' : zv[i % zv.size]? = some v := by rw [hl]; simpa using e
    have hlt := (Array.getElem?_eq_some_iff.1 e').1
    have e3 : zv[i % zv.size]! = v := by
      rw [getElem!_pos zv (i % zv.size) hlt]
      exact (Array.getElem?_eq_some_iff.1 e').2
    simp [hi, e3]

/-- A new block whose first cells are a row's, as an object of ours. -/
theorem newRow_obj [Globs] (hi : Inv κ h w) (t : TypeId) {cs : Array Value} {xs : List (List D)} {sz cap : Nat} (hsz : ∀ x ∈ xs, x.length = sz) (hcap : xs.length ≤ cap) (hcm : cap ≤ 9223372036854775807) (hfit : cap * sz ≤ cs.size)
    (hr : ∀ (i : Nat) (x : List D) (j : Nat) (d : D), xs[i]? = some x → x[j]? = some d → ∃ v, cs[i * sz + j]? = some v ∧ Rep κ w v d)
    (hk : ∀ id, h.f id = none → K (.row id (xs.length + 2) 0 xs.length) (h.set id (.row sz (xs.length + 2) xs false))) :
    ∃ κ' h' d, K d h' ∧ Rep κ' (w.alloc (.cells cs t)) (.slice (some ⟨w.heap.size, 0, none⟩) xs.length cap) d ∧ Inv κ' h' (w.alloc (.cells cs t)) ∧ Ev κ h w κ' h' (w.alloc (.cells cs t)) := by
  obtain ⟨id, hid, hf⟩ := hi.new_id
  let p : Place := ⟨w.heap.size, 0, xs.length + 2, cap, sz⟩
  have le := Le.alloc (κ := κ) hi (.cells cs t) hid p
  obtain ⟨i1, e1⟩ := hi.alloc hid hf (.cells cs t) (.row sz (xs.length + 2) xs false) p rfl rfl ⟨rfl, by omega, rfl, fun h => (by cases h), fun _ hx => by have := hi.immLt _ hx; simp [p] at this, hcap, hcm, hsz, cs, t, heap_alloc_self w _, by simpa [p] using hfit, fun i x j d hx hj => by
    obtain ⟨v, g1, g2⟩ := hr i x j d hx hj
    exact ⟨v, by simpa [p] using g1, g2.mono le⟩⟩
  exact ⟨_, _, _, hk id hf, .row (p := p) (by simp [Kap.put]) (Nat.le_refl _) (by omega) hcap (fun _ => .inr ⟨by simp [p], by simp [p]⟩), i1, e1⟩

/-- The same, as plain data. -/
theorem newRow_imm [Globs] (hi : Inv κ h w) (t : TypeId) {cs : Array Value} {fz : Nat × Nat} {xs : List (List D)} {sz cap : Nat} (hsz : ∀ x ∈ xs, x.length = sz) (hcap : xs.length ≤ cap) (hcm : xs.length ≤ 9223372036854775807)
    (hr : ∀ (i : Nat) (x : List D) (j : Nat) (d : D), xs[i]? = some x → x[j]? = some d → ∃ v, cs[i * sz + j]? = some v ∧ Rep κ w v d) :
    ∃ κ', Rep κ' (w.alloc (.cells cs t fz)) (.slice (some ⟨w.heap.size, 0, none⟩) xs.length cap) (.sl xs) ∧ Inv κ' h (w.alloc (.cells cs t fz)) ∧ Ev κ h w κ' h (w.alloc (.cells cs t fz)) := by
  obtain ⟨i1, e1⟩ := hi.alloc_imm (.cells cs t fz)
  have le := e1.le hi
  refine ⟨_, .sl (sz := sz) (fun i j => cs.getD (i * sz + j) undef) hcm hcap hsz (fun i x j d hx hj => ⟨Or.inr rfl, ?_⟩) (fun i x j d hx hj => ?_), i1, e1⟩
  · obtain ⟨v, g1, g2⟩ := hr i x j d hx hj
    rw [cell_of_row _ _ _ cs t fz (heap_alloc_self w _), Nat.zero_add, g1]
    simp [Array.getD_eq_getD_getElem?, g1]
  · obtain ⟨v, g1, g2⟩ := hr i x j d hx hj
    have : cs.getD (i * sz + j) undef = v := by simp [Array.getD_eq_getD_getElem?, g1]
    rw [this]
    exact g2.mono le
end Go.Proofs.YthpgepillaeldaaDoor.Zz
