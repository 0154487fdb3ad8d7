/- The instructions that write. -/
import Derived.Test.YthpgepillaeldaaDoorZJ
import Derived.Laws.CopyRow
set_option linter.unusedVariables false
set_option linter.unusedSimpArgs false
namespace Go.Proofs.YthpgepillaeldaaDoor.Zz
variable {P : Program} {κ : Kap} {h : AHeap} {w : World} {σ : Fr} {n : Nat} {a : Act} {K E : D → AHeap → Prop}

theorem Kap.put_self {id : Nat} {p : Place} (e : κ.loc id = some p) : κ.put id p = κ := by
  cases κ with
  | mk imm loc =>
  simp only [Kap.put, Kap.mk.injEq, true_and]
  funext i
  split
  · rename_i h; subst h; exact e.symm
  · rfl

theorem takeDrop_get {α : Type} (cs vs : List α) (off k : Nat) (hl : off + vs.length ≤ cs.length) :
    (cs.take off ++ vs ++ cs.drop (off + vs.length))[k]? = if off ≤ k ∧ k < off + vs.length then vs[k - off]? else cs[k]? := by
  have h1 : (cs.take off).length = off := by simp; omega
  by_cases c1 : k < off
  · rw [if_neg (by omega), List.append_assoc, List.getElem?_append_left (by omega), List.getElem?_take, if_pos c1]
  · by_cases c2 : k < off + vs.length
    · rw [if_pos (by omega), List.getElem?_append_left (by simp; omega), List.getElem?_append_right (by omega), h1]
    · rw [if_neg (by omega), List.getElem?_append_right (by simp; omega)]
      simp only [List.length_append, h1, List.getElem?_drop]
      congr 1
      omega

theorem setRow_le [Globs] (hi : Inv κ h w) {b : Nat} (ho : Owned κ h b) (cs : Array Value) : Le κ w κ (w.setRow b cs) :=
  ⟨fun x hx => ⟨hx, setRow_other w b x cs fun e => hi.owned_not_imm ho (e ▸ hx)⟩, (Le.refl κ w).loc⟩

/-- A store into an object's cells. -/
theorem write_obj [Globs] (hi : Inv κ h w) {id : Nat} {o o' : AObj} {p : Place} (ho : h.f id = some o) (hp : κ.loc id = some p) (hl : o.live = true) (hl' : o'.live = true) (cs : Array Value)
    (hr : ObjRep κ (w.setRow p.blk cs) p o') : Inv κ (h.set id o') (w.setRow p.blk cs) ∧ Ev κ h w κ (h.set id o') (w.setRow p.blk cs) := by
  have := Inv.change (w' := w.setRow p.blk cs) (p' := p) hi ho hp hl hl' (by simp) (by have := hi.locLt id p hp; simpa using this) (.inl rfl) (Nat.le_refl _) (fun _ => rfl) (fun _ => rfl) rfl rfl rfl
    (fun b _ hb => setRow_other w p.blk b cs hb) (by rw [Kap.put_self hp]; exact hr)
  rwa [Kap.put_self hp] at this

theorem cellOk_all {vs : List Value} {es : List D} (r : RepL κ w vs es) (h : es.all cellOk = true) : ∀ v ∈ vs, v.oneCell' = true := by
  induction r with
  | nil => intro v hv; cases hv
  | cons a _ ih =>
    simp at h
    intro v hv
    cases hv with
    | head => exact (rep_oneCell a h.1).1
    | tail _ hv => exact ih (by simpa using h.2) v hv

theorem storeVar_run {t : TypeId} {m : Nat} (hs : sizeOfT P t = some m) {v : Value} (hv : v.cells.size = m) (h1 : ∀ u ∈ v.cells.toList, u.oneCell' = true) {b off : Nat} {cs : Array Value} {ty : TypeId}
    (hb : w.heap[b]? = some (.cells cs ty (0, 0))) (hle : off + m ≤ cs.size) :
    (storeVar t ⟨b, off, none⟩ v).run P w = .ok () (w.setRow b (cs.toList.take off ++ v.cells.toList ++ cs.toList.drop (off + v.cells.toList.length)).toArray) := by
  have := run_storeCells_at P b off ty v.cells.toList 0 cs w hb (by simp; omega) h1
  simp only [Nat.add_zero] at this
  simp only [storeVar, Sem.run_bind, run_sizeOf hs, Result.andThen]
  rw [if_neg (by simp [hv])]
  simpa using this

theorem storeD_sound [Globs] (hi : Inv κ h w) {t : TypeId} {m : Nat} (hs : sizeOfT P t = some m) {u v : Value} {x d : D} (rx : Rep κ w u x) (rv : Rep κ w v d) {h' : AHeap} (e : storeD h m x d = some h') :
    ∃ w', (Instr.storeAt t u v).run P w = .ok () w' ∧ Inv κ h' w' ∧ Ev κ h w κ h' w' := by
  unfold storeD at e
  split at e
  · rename_i hc
    obtain ⟨c1, c2⟩ := hc
    have hnu : d ≠ .undef := by intro h; subst h; simp [cellsD, cellOk] at c2
    have rc := rep_cells rv hnu
    have one := cellOk_all rc c2
    have lc := rc.length
    have hvs : v.cells.size = m := by rw [← c1, ← lc]; simp
    split at e
    · rename_i id ver off
      split at e
      · rename_i ds ho
        split at e
        · rename_i hv1
          obtain ⟨hv1, hle⟩ := hv1
          subst hv1
          cases e
          cases rx with
          | ptr hl hv ha =>
          rename_i p ad
          obtain ⟨p', hp, hr⟩ := hi.obj _ _ ho
          rw [hl] at hp
          cases hp
          obtain ⟨h1, h2, h3, cs, ty, h4, h5, h6⟩ := hr
          have had := ha h1
          have hrun := storeVar_run (P := P) (w := w) hs hvs one h4 (off := p.base + off) (by omega)
          have le := setRow_le hi ⟨id, _, p, ho, rfl, hl, rfl⟩ (cs.toList.take (p.base + off) ++ v.cells.toList ++ cs.toList.drop (p.base + off + v.cells.toList.length)).toArray
          have hrun' : (Instr.storeAt t (.pointer (some ad)) v).run P w = (storeVar t ⟨p.blk, p.base + off, none⟩ v).run P w := by rw [had]; rfl
          refine ⟨_, hrun'.trans hrun, write_obj hi ho hl rfl rfl _ ⟨h1, h2, h3, _, ty, setRow_heap w p.blk cs _ ty (0, 0) h4, ?_, fun i d' hd' => ?_⟩⟩
          · simp [setAt_length]; omega
          · rw [setAt_get] at hd'
            have hlt : p.base + off + v.cells.toList.length ≤ cs.toList.length := by simp; omega
            have hlt' : i < ds.length := by
              split at hd'
              · omega
              · exact (List.getElem?_eq_some_iff.1 hd').1
            simp only [List.getElem?_toArray]
            rw [takeDrop_get _ _ _ _ hlt]
            by_cases hc : off ≤ i ∧ i < off + (cellsD d).length ∧ i < ds.length
            · rw [if_pos hc] at hd'
              obtain ⟨v', g1, g2⟩ := rc.get _ _ hd'
              rw [if_pos (by omega)]
              exact ⟨v', by rw [h2, Nat.zero_add]; exact g1, g2.mono le⟩
            · rw [if_neg hc] at hd'
              obtain ⟨v', g1, g2⟩ := h6 _ _ hd'
              rw [if_neg (by omega)]
              exact ⟨v', by simpa using g1, g2.mono le⟩
        · cases e
      · cases e
    · rename_i r ver i f
      split at e
      · rename_i sz ver' xs ho
        split at e
        · rename_i hv1
          subst hv1
          split at e
          · rename_i y hy
            split at e
            · rename_i hle
              cases e
              cases rx with
              | rptr hl hv ha =>
              rename_i p ad
              obtain ⟨p', hp, hr⟩ := hi.obj _ _ ho
              rw [hl] at hp
              cases hp
              obtain ⟨h1, h1', h2, h3, h4, h5, h5', h6, cs, ty, h7, h8, h9⟩ := hr
              have had := ha h1
              have hsz : y.length = sz := h6 y (List.mem_of_getElem? hy)
              have hi' : i < xs.length := (List.getElem?_eq_some_iff.1 hy).1
              have hroom : p.base + i * sz + f + m ≤ cs.size := by
                have : i * sz + sz ≤ p.cap * sz := by
                  calc i * sz + sz = (i + 1) * sz := by rw [Nat.add_mul, Nat.one_mul]
                    _ ≤ p.cap * sz := Nat.mul_le_mul_right _ (by omega)
                omega
              have hrun := storeVar_run (P := P) (w := w) hs hvs one h7 (off := p.base + i * sz + f) hroom
              have le := setRow_le hi ⟨r, _, p, ho, rfl, hl, rfl⟩ (cs.toList.take (p.base + i * sz + f) ++ v.cells.toList ++ cs.toList.drop (p.base + i * sz + f + v.cells.toList.length)).toArray
              have hrun' : (Instr.storeAt t (.pointer (some ad)) v).run P w = (storeVar t ⟨p.blk, p.base + i * sz + f, none⟩ v).run P w := by rw [had, h2]; rfl
              refine ⟨_, hrun'.trans hrun, write_obj hi ho hl rfl rfl _ ⟨h1, h1', h2, h3, h4, by simpa using h5, h5', ?_, _, ty, setRow_heap w p.blk cs _ ty (0, 0) h7, ?_, fun i' x' j d' hx' hj' => ?_⟩⟩
              · intro z hz
                rcases List.mem_or_eq_of_mem_set hz with hz | hz
                · exact h6 z hz
                · rw [hz, setAt_length]; exact hsz
              · simp; omega
              · have hlt : p.base + i * sz + f + v.cells.toList.length ≤ cs.toList.length := by simp; omega
                simp only [List.getElem?_toArray]
                rw [takeDrop_get _ _ _ _ hlt]
                rw [List.getElem?_set] at hx'
                split at hx'
                · rename_i he
                  subst he
                  cases hx'
                  rw [setAt_get] at hj'
                  have hj : j < y.length := by
                    split at hj'
                    · omega
                    · exact (List.getElem?_eq_some_iff.1 hj').1
                  by_cases hc : f ≤ j ∧ j < f + (cellsD d).length ∧ j < y.length
                  · rw [if_pos hc] at hj'
                    obtain ⟨v', g1, g2⟩ := rc.get _ _ hj'
                    rw [if_pos (by omega)]
                    refine ⟨v', ?_, g2.mono le⟩
                    rw [show p.base + i * sz + j - (p.base + i * sz + f) = j - f by omega]
                    exact g1
                  · rw [if_neg hc] at hj'
                    obtain ⟨v', g1, g2⟩ := h9 _ _ _ _ hy hj'
                    rw [if_neg (by omega)]
                    exact ⟨v', by simpa using g1, g2.mono le⟩
                · rename_i he
                  obtain ⟨v', g1, g2⟩ := h9 _ _ _ _ hx' hj'
                  have hj : j < sz := by
                    rw [← h6 x' (List.mem_of_getElem? hx')]
                    exact (List.getElem?_eq_some_iff.1 hj').1
                  rw [if_neg ?_]
                  · exact ⟨v', by simpa using g1, g2.mono le⟩
                  · rintro ⟨q1, q2⟩
                    rcases Nat.lt_or_ge i i' with hlt' | hge
                    · have : i * sz + sz ≤ i' * sz := by
                        calc i * sz + sz = (i + 1) * sz := by rw [Nat.add_mul, Nat.one_mul]
                          _ ≤ i' * sz := Nat.mul_le_mul_right _ hlt'
                      omega
                    · have : i' * sz + sz ≤ i * sz := by
                        calc i' * sz + sz = (i' + 1) * sz := by rw [Nat.add_mul, Nat.one_mul]
                          _ ≤ i * sz := Nat.mul_le_mul_right _ (by omega)
                      omega
            · cases e
          · cases e
        · cases e
      · cases e
    · cases e
  · cases e

/-- New cells. -/
theorem newVar_sound [Globs] (hi : Inv κ h w) (t : TypeId) {v : Value} {ds : List D} (r : RepL κ w v.cells.toList ds) (hk : ∀ id, h.f id = none → K (.ptr id 1 0) (h.set id (.cells ds))) :
    ∃ κ' h' ad d, (newVar t v).run P w = .ok ad (w.alloc (.cells v.cells t)) ∧ K d h' ∧ Rep κ' (w.alloc (.cells v.cells t)) (.pointer (some ad)) d ∧ Inv κ' h' (w.alloc (.cells v.cells t)) ∧ Ev κ h w κ' h' (w.alloc (.cells v.cells t)) := by
  obtain ⟨id, hid, hf⟩ := hi.new_id
  let p : Place := ⟨w.heap.size, 0, 1, 0, 0⟩
  have le := Le.alloc (κ := κ) hi (.cells v.cells t) hid p
  obtain ⟨i1, e1⟩ := hi.alloc hid hf (.cells v.cells t) (.cells ds) p rfl rfl ⟨rfl, rfl, fun hx => by have := hi.immLt _ hx; simp [p] at this, v.cells, t, heap_alloc_self w _, by have := r.length; simpa using this, fun i d hd => by
    obtain ⟨u, g1, g2⟩ := r.get i d hd
    exact ⟨u, by simpa using g1, g2.mono le⟩⟩
  exact ⟨_, _, ⟨w.heap.size, 0, none⟩, _, rfl, hk id hf, .ptr (p := p) (by simp [Kap.put]) (Nat.le_refl 1) (fun _ => rfl), i1, e1⟩
end Go.Proofs.YthpgepillaeldaaDoor.Zz
