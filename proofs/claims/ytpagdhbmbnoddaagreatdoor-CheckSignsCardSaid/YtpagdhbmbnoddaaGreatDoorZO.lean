/- The instructions that write. -/
import Derived.Test.YtpagdhbmbnoddaaGreatDoorZJ
import Derived.Laws.CopyRow
import Derived.Deep.AppendSrc
import Derived.Deep.OwnRows
import Derived.Laws.MakeOwn
set_option linter.unnecessarySimpa false
set_option linter.unusedVariables false
set_option linter.unusedSimpArgs false
namespace Go.Proofs.YtpagdhbmbnoddaaGreatDoor.Zz
variable {P : Program} {κ : Kap} {h : AHeap} {w : World} {σ : Fr} {n : Nat} {a : Act} {K E : D → AHeap → Prop}
theorem Kap.put_self {id : Nat} {p : Place} (e : κ.loc id = some p) : κ.put id p = κ := by
 cases κ with
 | mk imm loc =>
 simp only [Kap.put, Kap.mk.injEq, true_and]
 funext i
 split
 ·rename_i h; subst h; exact e.symm
 ·rfl
theorem takeDrop_get {α : Type} (cs vs : List α) (off k : Nat) (hl : off + vs.length ≤ cs.length) :
  (cs.take off ++ vs ++ cs.drop (off + vs.length))[k]? = if off ≤ k ∧ k < off + vs.length then vs[k - off]? else cs[k]? := by
 have h1 : (cs.take off).length = off := by simp; omega
 by_cases c1 : k < off
 ·rw [if_neg (by omega), List.append_assoc, List.getElem?_append_left (by omega), List.getElem?_take, if_pos c1]
 ·by_cases c2 : k < off + vs.length
  ·rw [if_pos (by omega), List.getElem?_append_left (by simp; omega), List.getElem?_append_right (by omega), h1]
  ·rw [if_neg (by omega), List.getElem?_append_right (by simp; omega)]
   simp only [List.length_append, h1, List.getElem?_drop]
   congr 1
   omega
theorem setRow_le [Globs] (hi : Inv κ h w) {b : Nat} (ho : Owned κ h b) (cs : Array Value) : Le κ w κ (w.setRow b cs) :=
 ⟨fun x hx => ⟨hx, setRow_other w b x cs fun e => hi.owned_not_imm ho (e ▸ hx)⟩, (Le.refl κ w).loc⟩
theorem write_obj [Globs] (hi : Inv κ h w) {id : Nat} {o o' : AObj} {p : Place} (ho : h.f id = some o) (hp : κ.loc id = some p) (hl : o.live = true) (hl' : o'.live = true) (cs : Array Value)
  (hr : ObjRep κ (w.setRow p.blk cs) p o') (hno : ∀ b, Own o' p b → Own o p b := by first | exact fun b h => Or.inl (h.of_ne (by simp)) | exact fun b h => h) : Inv κ (h.set id o') (w.setRow p.blk cs) ∧ Ev κ h w κ (h.set id o') (w.setRow p.blk cs) := by
 have := Inv.changeA (w' := w.setRow p.blk cs) (p' := p) hi ho hp hl hl' (by simp) (by have := hi.locLt id p hp; simpa using this) (fun b hb => .inl (hno b hb)) (Nat.le_refl _) (fun _ => rfl) (PLe.refl p) rfl rfl rfl
  (fun b _ hb => setRow_other w p.blk b cs fun e => hb (e ▸ Own.self)) (by rw [Kap.put_self hp]; exact hr)
 rwa [Kap.put_self hp] at this
theorem cellOk_all {vs : List Value} {es : List D} (r : RepL κ w vs es) (h : es.all cellOk = true) : ∀ v ∈ vs, v.oneCell' = true := by
 induction r with
 | nil => intro v hv; cases hv
 | cons a _ ih =>
  simp at h
  intro v hv
  cases hv with
  | head => exact (rep_oneCell a h.1).1
  | tail _ hv => exact ih (by simpa using h.2) v hv
theorem storeVar_run {t : TypeId} {m : Nat} (hs : sizeOfT P t = some m) {v : Value} (hv : v.cells.size = m) (h1 : ∀ u ∈ v.cells.toList, u.oneCell' = true) {b off : Nat} {cs : Array Value} {ty : TypeId}
  (hb : w.heap[b]? = some (.cells cs ty (0, 0))) (hle : off + m ≤ cs.size) :
  (storeVar t ⟨b, off, none⟩ v).run P w = .ok () (w.setRow b (cs.toList.take off ++ v.cells.toList ++ cs.toList.drop (off + v.cells.toList.length)).toArray) := by
 have := run_storeCells_at P b off ty v.cells.toList 0 cs w hb (by simp; omega) h1
 simp only [Nat.add_zero] at this
 simp only [storeVar, Sem.run_bind, run_sizeOf hs, Result.andThen]
 rw [if_neg (by simp [hv])]
 simpa using this
theorem storeD_sound [Globs] (hi : Inv κ h w) {t : TypeId} {m : Nat} (hs : sizeOfT P t = some m) {u v : Value} {x d : D} (rx : Rep κ w u x) (rv : Rep κ w v d) {h' : AHeap} (e : storeD h m x d = some h') :
  ∃ w', (Instr.storeAt t u v).run P w = .ok () w' ∧ Inv κ h' w' ∧ Ev κ h w κ h' w' := by
 unfold storeD at e
 split at e
 ·rename_i hc
  obtain ⟨c1, c2⟩ := hc
  have hnu : d ≠ .undef := by intro h; subst h; simp [cellsD, cellOk] at c2
  have rc := rep_cells rv hnu
  have one := cellOk_all rc c2
  have lc := rc.length
  have hvs : v.cells.size = m := by rw [← c1, ← lc]; simp
  split at e
  ·rename_i id ver off
   split at e
   ·rename_i ds ho
    split at e
    ·rename_i hv1
     obtain ⟨hv1, hle⟩ := hv1
     subst hv1
     cases e
     cases rx with
     | ptr hl hv ha =>
     rename_i p ad
     obtain ⟨p', hp, hr⟩ := hi.obj _ _ ho
     rw [hl] at hp
     cases hp
     obtain ⟨h1, h2, h3, cs, ty, h4, h5, h6⟩ := hr
     have had := ha h1
     have hrun := storeVar_run (P := P) (w := w) hs hvs one h4 (off := p.base + off) (by omega)
     have le := setRow_le hi ⟨id, _, p, ho, rfl, hl, Own.self⟩ (cs.toList.take (p.base + off) ++ v.cells.toList ++ cs.toList.drop (p.base + off + v.cells.toList.length)).toArray
     have hrun' : (Instr.storeAt t (.pointer (some ad)) v).run P w = (storeVar t ⟨p.blk, p.base + off, none⟩ v).run P w := by rw [had]; rfl
     refine ⟨_, hrun'.trans hrun, write_obj hi ho hl rfl rfl _ ⟨h1, h2, h3, _, ty, setRow_heap w p.blk cs _ ty (0, 0) h4, ?_, fun i d' hd' => ?_⟩⟩
     ·simp [setAt_length]; omega
     ·rw [setAt_get] at hd'
      have hlt : p.base + off + v.cells.toList.length ≤ cs.toList.length := by simp; omega
      have hlt' : i < ds.length := by
       split at hd'
       ·omega
       ·exact (List.getElem?_eq_some_iff.1 hd').1
      simp only [List.getElem?_toArray]
      rw [takeDrop_get _ _ _ _ hlt]
      by_cases hc : off ≤ i ∧ i < off + (cellsD d).length ∧ i < ds.length
      ·rw [if_pos hc] at hd'
       obtain ⟨v', g1, g2⟩ := rc.get _ _ hd'
       rw [if_pos (by omega)]
       exact ⟨v', by rw [h2, Nat.zero_add]; exact g1, g2.mono le⟩
      ·rw [if_neg hc] at hd'
       obtain ⟨v', g1, g2⟩ := h6 _ _ hd'
       rw [if_neg (by omega)]
       exact ⟨v', by simpa using g1, g2.mono le⟩
    ·cases e
   ·cases e
  ·rename_i r ver i f
   split at e
   ·rename_i sz ver' xs ho
    split at e
    ·rename_i hv1
     subst hv1
     split at e
     ·rename_i y hy
      split at e
      ·rename_i hle
       cases e
       cases rx with
       | rptr hl hv ha =>
       rename_i p ad
       obtain ⟨p', hp, hr⟩ := hi.obj _ _ ho
       rw [hl] at hp
       cases hp
       obtain ⟨h1, h1', h2, h3, h4, h5, h5', h6, cs, ty, h7, h8, h9⟩ := hr
       have had := ha h1
       have hsz : y.length = sz := h6 y (List.mem_of_getElem? hy)
       have hi' : i < xs.length := (List.getElem?_eq_some_iff.1 hy).1
       have hroom : p.base + i * sz + f + m ≤ cs.size := by
        have : i * sz + sz ≤ p.cap * sz := by
         calc i * sz + sz = (i + 1) * sz := by rw [Nat.add_mul, Nat.one_mul]
          _ ≤ p.cap * sz := Nat.mul_le_mul_right _ (by omega)
        omega
       have hrun := storeVar_run (P := P) (w := w) hs hvs one h7 (off := p.base + i * sz + f) hroom
       have le := setRow_le hi ⟨r, _, p, ho, rfl, hl, Own.self⟩ (cs.toList.take (p.base + i * sz + f) ++ v.cells.toList ++ cs.toList.drop (p.base + i * sz + f + v.cells.toList.length)).toArray
       have hrun' : (Instr.storeAt t (.pointer (some ad)) v).run P w = (storeVar t ⟨p.blk, p.base + i * sz + f, none⟩ v).run P w := by rw [had, h2]; rfl
       refine ⟨_, hrun'.trans hrun, write_obj hi ho hl rfl rfl _ ⟨h1, h1', h2, h3, h4, by simpa using h5, h5', ?_, _, ty, setRow_heap w p.blk cs _ ty (0, 0) h7, ?_, fun i' x' j d' hx' hj' => ?_⟩⟩
       ·intro z hz
        rcases List.mem_or_eq_of_mem_set hz with hz | hz
        ·exact h6 z hz
        ·rw [hz, setAt_length]; exact hsz
       ·simp; omega
       ·have hlt : p.base + i * sz + f + v.cells.toList.length ≤ cs.toList.length := by simp; omega
        simp only [List.getElem?_toArray]
        rw [takeDrop_get _ _ _ _ hlt]
        rw [List.getElem?_set] at hx'
        split at hx'
        ·rename_i he
         subst he
         cases hx'
         rw [setAt_get] at hj'
         have hj : j < y.length := by
          split at hj'
          ·omega
          ·exact (List.getElem?_eq_some_iff.1 hj').1
         by_cases hc : f ≤ j ∧ j < f + (cellsD d).length ∧ j < y.length
         ·rw [if_pos hc] at hj'
          obtain ⟨v', g1, g2⟩ := rc.get _ _ hj'
          rw [if_pos (by omega)]
          refine ⟨v', ?_, g2.mono le⟩
          rw [show p.base + i * sz + j - (p.base + i * sz + f) = j - f by omega]
          exact g1
         ·rw [if_neg hc] at hj'
          obtain ⟨v', g1, g2⟩ := h9 _ _ _ _ hy hj'
          rw [if_neg (by omega)]
          exact ⟨v', by simpa using g1, g2.mono le⟩
        ·rename_i he
         obtain ⟨v', g1, g2⟩ := h9 _ _ _ _ hx' hj'
         have hj : j < sz := by
          rw [← h6 x' (List.mem_of_getElem? hx')]
          exact (List.getElem?_eq_some_iff.1 hj').1
         rw [if_neg ?_]
         ·exact ⟨v', by simpa using g1, g2.mono le⟩
         ·rintro ⟨q1, q2⟩
          rcases Nat.lt_or_ge i i' with hlt' | hge
          ·have : i * sz + sz ≤ i' * sz := by
            calc i * sz + sz = (i + 1) * sz := by rw [Nat.add_mul, Nat.one_mul]
             _ ≤ i' * sz := Nat.mul_le_mul_right _ hlt'
           omega
          ·have : i' * sz + sz ≤ i * sz := by
            calc i' * sz + sz = (i' + 1) * sz := by rw [Nat.add_mul, Nat.one_mul]
             _ ≤ i * sz := Nat.mul_le_mul_right _ (by omega)
           omega
      ·cases e
     ·cases e
    ·cases e
   ·cases e
  ·cases e
 ·cases e
theorem newVar_sound [Globs] (hi : Inv κ h w) (t : TypeId) {v : Value} {ds : List D} (r : RepL κ w v.cells.toList ds) (hk : ∀ id, h.f id = none → K (.ptr id 1 0) (h.set id (.cells ds))) :
  ∃ κ' h' ad d, (newVar t v).run P w = .ok ad (w.alloc (.cells v.cells t)) ∧ K d h' ∧ Rep κ' (w.alloc (.cells v.cells t)) (.pointer (some ad)) d ∧ Inv κ' h' (w.alloc (.cells v.cells t)) ∧ Ev κ h w κ' h' (w.alloc (.cells v.cells t)) := by
 obtain ⟨id, hid, hf⟩ := hi.new_id
 let p : Place := { blk := w.heap.size, base := 0, ver := 1, cap := 0, sz := 0, rc := none }
 have le := Le.alloc (κ := κ) hi (.cells v.cells t) hid p
 obtain ⟨i1, e1⟩ := hi.alloc hid hf (.cells v.cells t) (.cells ds) p rfl rfl rfl ⟨rfl, rfl, fun hx => by have := hi.immLt _ hx; simp [p] at this, v.cells, t, heap_alloc_self w _, by have := r.length; simpa using this, fun i d hd => by
  obtain ⟨u, g1, g2⟩ := r.get i d hd
  exact ⟨u, by simpa using g1, g2.mono le⟩⟩
 exact ⟨_, _, ⟨w.heap.size, 0, none⟩, _, rfl, hk id hf, .ptr (p := p) (by simp [Kap.put]) (Nat.le_refl 1) (fun _ => rfl), i1, e1⟩
end Go.Proofs.YtpagdhbmbnoddaaGreatDoor.Zz
namespace Go.Proofs.YtpagdhbmbnoddaaGreatDoor.Zz
variable {P : Program} {κ : Kap} {h : AHeap} {w : World} {σ : Fr} {n : Nat} {a : Act} {K E : D → AHeap → Prop}
theorem flatten_length {sz : Nat} : ∀ {xs : List (List D)}, (∀ x ∈ xs, x.length = sz) → xs.flatten.length = xs.length * sz
 | [], _ => by simp
 | x :: xs, h => by
  have h1 := h x (by simp)
  have h2 := flatten_length (xs := xs) fun y hy => h y (by simp [hy])
  simp only [List.flatten_cons, List.length_append, h1, h2, List.length_cons]
  rw [Nat.add_mul, Nat.one_mul, Nat.add_comm]
theorem flatten_get {sz : Nat} : ∀ {xs : List (List D)}, (∀ x ∈ xs, x.length = sz) → ∀ {i j : Nat} {x : List D} {d : D}, xs[i]? = some x → x[j]? = some d → xs.flatten[i * sz + j]? = some d
 | [], _, i, j, x, d, h1, _ => by simp at h1
 | y :: xs, h, i, j, x, d, h1, h2 => by
  have hy := h y (by simp)
  cases i with
  | zero =>
   simp at h1
   subst h1
   have hj : j < y.length := (List.getElem?_eq_some_iff.1 h2).1
   rw [List.flatten_cons, Nat.zero_mul, Nat.zero_add, List.getElem?_append_left hj]
   exact h2
  | succ i =>
   have := flatten_get (xs := xs) (fun z hz => h z (by simp [hz])) (i := i) (by simpa using h1) h2
   rw [List.flatten_cons, List.getElem?_append_right (by rw [hy, Nat.add_mul]; omega), hy, ← this]
   congr 1
   rw [Nat.add_mul]
   omega
theorem setAt_append_right (as bs : List D) (off : Nat) (ds : List D) : setAt (as ++ bs) (as.length + off) ds = as ++ setAt bs off ds := by
 induction ds generalizing bs off with
 | nil => rfl
 | cons d ds ih =>
  rw [setAt, setAt]
  have : (as ++ bs).set (as.length + off) d = as ++ bs.set off d := by
   rw [List.set_append_right _ _ (by omega)]
   congr 2
   omega
  rw [this, Nat.add_assoc, ih]
theorem setAt_append_left (as bs ds : List D) (h : as.length = ds.length) : setAt (as ++ bs) 0 ds = ds ++ bs := by
 apply List.ext_getElem?
 intro i
 rw [setAt_get]
 by_cases c : i < ds.length
 ·rw [if_pos (by simp; omega), List.getElem?_append_left c]
  simp
 ·rw [if_neg (by omega), List.getElem?_append_right (by omega), List.getElem?_append_right (by omega), h]
theorem flatten_set {sz : Nat} : ∀ {xs : List (List D)}, (∀ x ∈ xs, x.length = sz) → ∀ {i : Nat} {y : List D}, i < xs.length → y.length = sz → (xs.set i y).flatten = setAt xs.flatten (i * sz) y
 | [], _, i, y, h1, _ => by simp at h1
 | x :: xs, h, i, y, h1, h2 => by
  have hx := h x (by simp)
  cases i with
  | zero =>
   simp only [List.set_cons_zero, List.flatten_cons, Nat.zero_mul]
   rw [setAt_append_left _ _ _ (by omega)]
  | succ i =>
   have := flatten_set (xs := xs) (fun z hz => h z (by simp [hz])) (i := i) (y := y) (by simpa using h1) h2
   simp only [List.set_cons_succ, List.flatten_cons, this]
   rw [show (i + 1) * sz = x.length + i * sz by rw [hx, Nat.add_mul, Nat.one_mul, Nat.add_comm], setAt_append_right]
theorem buildRows_flat {sz : Nat} : ∀ (ps : List (Nat × D)) (xs ys : List (List D)), (∀ x ∈ xs, x.length = sz) → buildRows sz xs ps = some ys →
  buildD xs.flatten (ps.map fun p => (p.1 * sz, sz, p.2)) = some ys.flatten ∧ (∀ y ∈ ys, y.length = sz) ∧ ys.length = xs.length
 | [], xs, ys, h, e => by simp [buildRows] at e; subst e; exact ⟨by simp [buildD], h, rfl⟩
 | (i, d) :: ps, xs, ys, h, e => by
  simp only [buildRows] at e
  split at e
  ·rename_i hc
   obtain ⟨c1, c2, c3⟩ := hc
   obtain ⟨h1, h2, h3⟩ := buildRows_flat ps _ ys (fun x hx => by
    rcases List.mem_or_eq_of_mem_set hx with hx | hx
    ·exact h x hx
    ·rw [hx]; exact c1) e
   refine ⟨?_, h2, by simpa using h3⟩
   simp only [List.map_cons, buildD]
   have hle : i * sz + sz ≤ xs.flatten.length := by
    rw [flatten_length h]
    calc i * sz + sz = (i + 1) * sz := by rw [Nat.add_mul, Nat.one_mul]
     _ ≤ xs.length * sz := Nat.mul_le_mul_right _ c2
   rw [if_pos ⟨c1, hle, c3⟩, ← flatten_set h c2 c1]
   exact h1
  ·cases e
theorem replicate_flatten (zs : List D) (m : Nat) : ∀ k, k < m * zs.length → (List.replicate m zs).flatten[k]? = zs[k % zs.length]? := by
 induction m with
 | zero => intro k hk; omega
 | succ m ih =>
  intro k hk
  rw [List.replicate_succ, List.flatten_cons]
  by_cases c : k < zs.length
  ·rw [List.getElem?_append_left c, Nat.mod_eq_of_lt c]
  ·rw [List.getElem?_append_right (by omega), ih _ (by rw [Nat.add_mul] at hk; omega)]
   have : k % zs.length = (k - zs.length) % zs.length := by
    rw [Nat.mod_eq_sub_mod (by omega)]
   rw [this]
theorem zeros_rep {zs : List D} {zv : Array Value} (hz : RepL κ w zv.toList zs) (m : Nat) : RepL κ w (((Array.range (m * zs.length)).map (zv[· % zv.size]!)).toList) (List.replicate m zs).flatten := by
 have hl := hz.length
 simp at hl
 refine RepL.of_get ?_ fun i d hd => ?_
 ·rw [flatten_length (sz := zs.length) (by intro x hx; rw [List.eq_of_mem_replicate hx])]
  simp
 ·have hi : i < m * zs.length := by
   have := (List.getElem?_eq_some_iff.1 hd).1
   rw [flatten_length (sz := zs.length) (by intro x hx; rw [List.eq_of_mem_replicate hx])] at this
   simpa using this
  rw [replicate_flatten zs m i hi] at hd
  obtain ⟨v, e, r⟩ := hz.get _ _ hd
  refine ⟨v, ?_, r⟩
  have e' : zv[i % zv.size]? = some v := by rw [hl]; simpa using e
  have hlt := (Array.getElem?_eq_some_iff.1 e').1
  have e3 : zv[i % zv.size]! = v := by
   rw [getElem!_pos zv (i % zv.size) hlt]
   exact (Array.getElem?_eq_some_iff.1 e').2
  simp [hi, e3]
theorem newRow_obj [Globs] (hi : Inv κ h w) (t : TypeId) {cs : Array Value} {xs : List (List D)} {sz cap : Nat} (hsz : ∀ x ∈ xs, x.length = sz) (hcap : xs.length ≤ cap) (hcm : cap ≤ 9223372036854775807) (hfit : cap * sz ≤ cs.size)
  (hr : ∀ (i : Nat) (x : List D) (j : Nat) (d : D), xs[i]? = some x → x[j]? = some d → ∃ v, cs[i * sz + j]? = some v ∧ Rep κ w v d)
  (hk : ∀ id, h.f id = none → K (.row id (xs.length + 2) 0 xs.length) (h.set id (.row sz (xs.length + 2) xs false))) :
  ∃ κ' h' d, K d h' ∧ Rep κ' (w.alloc (.cells cs t)) (.slice (some ⟨w.heap.size, 0, none⟩) xs.length cap) d ∧ Inv κ' h' (w.alloc (.cells cs t)) ∧ Ev κ h w κ' h' (w.alloc (.cells cs t)) := by
 obtain ⟨id, hid, hf⟩ := hi.new_id
 let p : Place := { blk := w.heap.size, base := 0, ver := xs.length + 2, cap, sz, rc := none }
 have le := Le.alloc (κ := κ) hi (.cells cs t) hid p
 obtain ⟨i1, e1⟩ := hi.alloc hid hf (.cells cs t) (.row sz (xs.length + 2) xs false) p rfl rfl rfl ⟨rfl, by omega, rfl, fun h => (by cases h), fun _ hx => by have := hi.immLt _ hx; simp [p] at this, hcap, hcm, hsz, cs, t, heap_alloc_self w _, by simpa [p] using hfit, fun i x j d hx hj => by
  obtain ⟨v, g1, g2⟩ := hr i x j d hx hj
  exact ⟨v, by simpa [p] using g1, g2.mono le⟩⟩
 exact ⟨_, _, _, hk id hf, .row (p := p) (by simp [Kap.put]) (Nat.le_refl _) (by omega) hcap (fun _ => .inr ⟨by simp [p], by simp [p]⟩) (by simp [p]), i1, e1⟩
theorem newRow_imm [Globs] (hi : Inv κ h w) (t : TypeId) {cs : Array Value} {fz : Nat × Nat} {xs : List (List D)} {sz cap : Nat} (hsz : ∀ x ∈ xs, x.length = sz) (hcap : xs.length ≤ cap) (hcm : xs.length ≤ 9223372036854775807)
  (hr : ∀ (i : Nat) (x : List D) (j : Nat) (d : D), xs[i]? = some x → x[j]? = some d → ∃ v, cs[i * sz + j]? = some v ∧ Rep κ w v d) :
  ∃ κ', Rep κ' (w.alloc (.cells cs t fz)) (.slice (some ⟨w.heap.size, 0, none⟩) xs.length cap) (.sl xs) ∧ Inv κ' h (w.alloc (.cells cs t fz)) ∧ Ev κ h w κ' h (w.alloc (.cells cs t fz)) := by
 obtain ⟨i1, e1⟩ := hi.alloc_imm (.cells cs t fz)
 have le := e1.le hi
 refine ⟨_, .sl (sz := sz) (fun i j => cs.getD (i * sz + j) undef) hcm hcap hsz (fun i x j d hx hj => ⟨Or.inr rfl, ?_⟩) (fun i x j d hx hj => ?_), i1, e1⟩
 ·obtain ⟨v, g1, g2⟩ := hr i x j d hx hj
  rw [cell_of_row _ _ _ cs t fz (heap_alloc_self w _), Nat.zero_add, g1]
  simp [Array.getD_eq_getD_getElem?, g1]
 ·obtain ⟨v, g1, g2⟩ := hr i x j d hx hj
  have : cs.getD (i * sz + j) undef = v := by simp [Array.getD_eq_getD_getElem?, g1]
  rw [this]
  exact g2.mono le
end Go.Proofs.YtpagdhbmbnoddaaGreatDoor.Zz
namespace Go.Proofs.YtpagdhbmbnoddaaGreatDoor.Zz
variable {P : Program} {κ : Kap} {h : AHeap} {w : World} {σ : Fr} {n : Nat} {a : Act} {K E : D → AHeap → Prop}
theorem elemOfSl_spec {t e : TypeId} (h : elemOfSl P t = some e) : P.underlying t = some (.slice e) := by
  unfold elemOfSl at h
  split at h <;> cases h
  assumption
theorem sizeOf_info {t : TypeId} {k : Nat} (e : sizeOfT P t = some k) : ∃ i, P.info? t = some i ∧ i.size = k := by
  unfold sizeOfT at e
  cases e1 : P.info? t with
  | none => simp [e1] at e
  | some i => simp [e1] at e; exact ⟨i, rfl, e⟩
theorem buildSlice_cells {t e : TypeId} {sz m : Nat} {z : D} (ht : P.underlying t = some (.slice e)) (hs : sizeOfT P e = some sz) (hz : zeroOfT P e = some z) (hb : m * sz ≤ 16777216) (hzl : (cellsD z).length = sz) (hpos : 0 < sz)
    {ps : List (Nat × Value)} {qs : List (Nat × D)} (hl : ps.length = qs.length) (hq : ∀ (i : Nat) (j : Nat) (v : Value), ps[i]? = some (j, v) → ∃ d, qs[i]? = some (j, d) ∧ Rep κ w v d)
    {xs : List (List D)} (hx : buildRows sz (rowsOf sz (cellsD z) m) qs = some xs) :
    ∃ cs, (Instr.buildSlice t m ps.toArray).run P w = .ok (.slice (some ⟨w.heap.size, 0, none⟩) m m) (w.alloc (.cells cs e)) ∧ RepL κ w cs.toList xs.flatten ∧ (∀ x ∈ xs, x.length = sz) ∧ xs.length = m := by
  obtain ⟨zv, z1, z2, _⟩ := zero_cells hz κ w
  have hrep : ∀ x ∈ rowsOf sz (cellsD z) m, x.length = sz := by
    intro x hx
    rw [List.eq_of_mem_replicate hx, hzl]
  obtain ⟨b1, b2, b3⟩ := buildRows_flat qs _ xs hrep hx
  have hz0 := zeros_rep z2 m
  rw [hzl] at hz0
  have b1' : buildD (List.replicate m (cellsD z)).flatten (qs.map fun p => (p.1 * sz, sz, p.2)) = some xs.flatten := b1
  obtain ⟨cs, f1, f2⟩ := fill_sound (place := fun i => some (i * sz, sz)) (cells := (Array.range (m * sz)).map (zv.cells[· % zv.cells.size]!)) hz0 ps (qs.map fun p => (p.1 * sz, sz, p.2)) (by simpa using hl) (fun i j v hv => by
    obtain ⟨d, g1, g2⟩ := hq i j v hv
    exact ⟨_, sz, d, by simp [g1], rfl, g2⟩) _ b1'
  refine ⟨cs, ?_, f2, b2, by simpa [rowsOf] using b3⟩
  have h1 : ¬ (m * sz > 2 ^ 24) := by omega
  simp only [Instr.buildSlice, Sem.run_bind, run_underlying ht, Result.andThen, run_sizeOf hs]
  rw [if_neg h1]
  by_cases h0 : m * sz = 0
  · have hm : m = 0 := by
      rcases Nat.mul_eq_zero.1 h0 with h | h
      · exact h
      · omega
    subst hm
    simp only [Nat.zero_mul, if_true, Sem.run_pure]
    have hcs : (Array.range 0).map (fun i => (#[] : Array Value)[i % (#[] : Array Value).size]!) = (Array.range (0 * sz)).map (zv.cells[· % zv.cells.size]!) := by simp
    rw [← hcs] at f1
    simp only [Sem.run_bind, Sem.run_pure, Result.andThen, f1, newRow, run_newObj]
    rfl
  · rw [if_neg h0]
    simp only [Sem.run_bind, z1, Result.andThen, Sem.run_pure, f1, newRow, run_newObj]
    rfl
theorem flat_get {cs : Array Value} {xs : List (List D)} {sz : Nat} (h : RepL κ w cs.toList xs.flatten) (hsz : ∀ x ∈ xs, x.length = sz) :
    ∀ (i : Nat) (x : List D) (j : Nat) (d : D), xs[i]? = some x → x[j]? = some d → ∃ v, cs[i * sz + j]? = some v ∧ Rep κ w v d := fun i x j d h1 h2 => arr_get h _ d (flatten_get hsz h1 h2)
theorem makeSlice_sound [Globs] (hi : Inv κ h w) {t e : TypeId} {by_ : Nat} {z : D} (ht : P.underlying t = some (.slice e)) (hs : sizeOfT P e = some 1) (hb : bytesOfT P e = some by_) (hz : zeroOfT P e = some z) (hzo : cellOk z = true) (hpos : 0 < by_)
    {k1 k2 : IntKind} {l : Int} (h0 : 0 ≤ l) (hbd : l * by_ ≤ 140737488355328)
    (hk : ∀ id, h.f id = none → K (.row id (l.toNat + 2) 0 l.toNat) (h.set id (.row 1 (l.toNat + 2) (rowsOf 1 [z] l.toNat) false))) :
    UponA P κ h w K E ((do let x ← Instr.makeSlice t (.int k1 l) (.int k2 l); pure (Next.value x) : Sem Next).run P w) := by
  obtain ⟨zv, z1, z2, i, hi1, hi2⟩ := run_zeroValue hz κ w
  obtain ⟨o1, o2⟩ := rep_oneCell z2 hzo
  obtain ⟨m, rfl⟩ := Int.eq_ofNat_of_zero_le h0
  simp only [Int.toNat_natCast] at hk
  have hbd' : by_ * m ≤ 281474976710656 := by
    have : (m : Int) * (by_ : Int) = ((by_ * m : Nat) : Int) := by rw [Nat.mul_comm]; simp
    omega
  have hm : m ≤ 281474976710656 := Nat.le_trans (Nat.le_mul_of_pos_left _ hpos) hbd'
  have hinfo : (P.info? e).map (fun i => (i.zero, i.size, i.bytes)) = some (some zv, 1, by_) := by
    obtain ⟨i', e1, e2⟩ := sizeOf_info hs
    rw [hi1] at e1
    cases e1
    have hby : i.bytes = by_ := by
      unfold bytesOfT at hb
      rw [hi1] at hb
      simpa using hb
    simp [hi1, hi2, e2, hby]
  have hrun := run_make_row' t e zv by_ ht hinfo o2 k1 k2 m hbd' (by omega) w
  simp only [Sem.run_bind, hrun, Result.andThen, Sem.run_pure]
  obtain ⟨κ', h', d, a1, a2, a3, a4⟩ := newRow_obj (K := K) hi e (cs := madeCells #[zv] m) (xs := rowsOf 1 [z] m) (sz := 1) (cap := m) (fun x hx => by rw [List.eq_of_mem_replicate hx]; rfl) (by simp [rowsOf]) (by omega) (by simp [size_madeCells])
    (fun i x j d hx hj => by
      have hx' := List.eq_of_mem_replicate (List.mem_of_getElem? hx)
      subst hx'
      have him : i < m := by
        have := (List.getElem?_eq_some_iff.1 hx).1
        simpa [rowsOf] using this
      cases j with
      | succ j => simp at hj
      | zero =>
        simp at hj
        subst hj
        exact ⟨zv, by simp [madeCells, him, Nat.mod_one], z2⟩)
    (by simpa [rowsOf] using hk)
  refine ⟨κ', h', d, a1, ?_, a3, a4⟩
  simpa [rowsOf] using a2
end Go.Proofs.YtpagdhbmbnoddaaGreatDoor.Zz
namespace Go.Proofs.YtpagdhbmbnoddaaGreatDoor.Zz
variable {P : Program} {κ : Kap} {h : AHeap} {w : World} {σ : Fr} {n : Nat} {a : Act} {K E : D → AHeap → Prop}
theorem run_append_room_row {t tx ty e : TypeId} {i : TypeInfo} (ht : P.underlying t = some (.slice e)) (hi : P.info? e = some i) {g off sLen sCap : Nat} {cur : Array Value} {el : TypeId} (hg : w.heap[g]? = some (.cells cur el (0, 0)))
  {x : Value} {m : Nat} {news : List Value} (hs : Src P i.size tx x m news w) (hroom : sLen + m ≤ sCap) (hfit : off + sLen * i.size + news.length ≤ cur.size) :
  (Builtin.append_ #[t, tx] ty #[.slice (some ⟨g, off, none⟩) sLen sCap, x]).run P w =
   .ok (.slice (some ⟨g, off, none⟩) (sLen + m) sCap) (w.setRow g (cur.toList.take (off + sLen * i.size) ++ news ++ cur.toList.drop (off + sLen * i.size + news.length)).toArray) := by
 have hst := run_storeCells_at P g (off + sLen * i.size) el news 0 cur w hg (by simpa using hfit) hs.one
 simp only [Nat.add_zero] at hst
 rcases hs.kind with ⟨e', hk⟩ | hk <;> simp [Builtin.append_, run_underlying ht, run_underlying hk, sizeOf, typeInfo, hi, hs.len, hroom, hs.cells, Addr.add_lit, hst]
theorem cells_list {b o sz : Nat} {ys : List (List D)} (hy : ∀ y ∈ ys, y.length = sz) (hpos : 0 < sz)
  (hc : ∀ (i : Nat) (y : List D) (j : Nat) (d : D), ys[i]? = some y → y[j]? = some d → ∃ v, w.cell? ⟨b, o + i * sz + j, none⟩ = some v ∧ Rep κ w v d) :
  ∃ news : List Value, RepL κ w news ys.flatten ∧ news.length = ys.length * sz ∧ ∀ j u, news[j]? = some u → w.cell? ⟨b, o + j, none⟩ = some u := by
 have hex : ∀ k, ∃ v, ∀ i y j d, k = i * sz + j → ys[i]? = some y → y[j]? = some d → w.cell? ⟨b, o + k, none⟩ = some v ∧ Rep κ w v d := fun k => by
  by_cases hk' : ∃ i y j d, k = i * sz + j ∧ ys[i]? = some y ∧ y[j]? = some d
  ·obtain ⟨i, y, j, d, rfl, h1, h2⟩ := hk'
   obtain ⟨v, g1, g2⟩ := hc i y j d h1 h2
   refine ⟨v, fun i' y' j' d' he h1' h2' => ?_⟩
   have hj : j < sz := by rw [← hy y (List.mem_of_getElem? h1)]; exact (List.getElem?_eq_some_iff.1 h2).1
   have hj' : j' < sz := by rw [← hy y' (List.mem_of_getElem? h1')]; exact (List.getElem?_eq_some_iff.1 h2').1
   have hdiv : i = i' := by
    have a1 : (i * sz + j) / sz = i := by rw [Nat.mul_comm, Nat.mul_add_div hpos, Nat.div_eq_of_lt hj, Nat.add_zero]
    have a2 : (i' * sz + j') / sz = i' := by rw [Nat.mul_comm, Nat.mul_add_div hpos, Nat.div_eq_of_lt hj', Nat.add_zero]
    rw [← a1, ← a2, he]
   subst hdiv
   have hjj : j = j' := by omega
   subst hjj
   rw [h1] at h1'
   cases h1'
   rw [h2] at h2'
   cases h2'
   exact ⟨by rw [← Nat.add_assoc]; exact g1, g2⟩
  ·exact ⟨undef, fun i y j d he h1 h2 => absurd ⟨i, y, j, d, he, h1, h2⟩ hk'⟩
 obtain ⟨f, hf⟩ := Classical.axiomOfChoice hex
 have hfl : ys.flatten.length = ys.length * sz := flatten_length hy
 have hcell : ∀ k (d : D), ys.flatten[k]? = some d → w.cell? ⟨b, o + k, none⟩ = some (f k) ∧ Rep κ w (f k) d := fun k d hd => by
  have hk' : k < ys.length * sz := by rw [← hfl]; exact (List.getElem?_eq_some_iff.1 hd).1
  have hi' : k / sz < ys.length := by rw [Nat.div_lt_iff_lt_mul hpos]; exact hk'
  have hlen := hy _ (List.getElem_mem hi')
  have hj' : k % sz < ys[k / sz].length := by rw [hlen]; exact Nat.mod_lt _ hpos
  have hdm : k = k / sz * sz + k % sz := by rw [Nat.mul_comm]; exact (Nat.div_add_mod k sz).symm
  have h2 := flatten_get hy (i := k / sz) (j := k % sz) (x := ys[k / sz]) (d := ys[k / sz][k % sz]) (by simp [hi']) (by simp [hj'])
  rw [← hdm, hd] at h2
  cases h2
  obtain ⟨g1, g2⟩ := hf k (k / sz) ys[k / sz] (k % sz) _ hdm (List.getElem?_eq_getElem hi') (List.getElem?_eq_getElem hj')
  exact ⟨g1, g2⟩
 have hrep : RepL κ w ((List.range (ys.length * sz)).map f) ys.flatten := RepL.of_get (by simp [hfl]) fun k d hd => by
  have hk' : k < ys.length * sz := by rw [← hfl]; exact (List.getElem?_eq_some_iff.1 hd).1
  exact ⟨f k, by simp [hk'], (hcell k d hd).2⟩
 refine ⟨(List.range (ys.length * sz)).map f, hrep, by simp, fun j u hu => ?_⟩
 have hj : j < ys.length * sz := by
  have := (List.getElem?_eq_some_iff.1 hu).1
  simpa using this
 have hd : ys.flatten[j]? = some (ys.flatten[j]'(by rw [hfl]; exact hj)) := by simp [hfl, hj]
 rw [(hcell j _ hd).1]
 simpa [hj] using hu
theorem src_of [Globs] (hi : Inv κ h w) {tx : TypeId} {sz : Nat} (hpos : 0 < sz) {u : Value} {x : D} (r : Rep κ w u x) {ys : List (List D)} (e : (match x with | .str b => some (encB b) | x => elemsOf h x) = some ys)
  (hk : (∃ e', P.underlying tx = some (.slice e') ∧ (∀ b, x ≠ .str b)) ∨ (P.underlying tx = some .string ∧ sz = 1 ∧ ∃ b, x = .str b)) (hy : ∀ y ∈ ys, y.length = sz ∧ y.all cellOk = true) :
  ∃ news, Src P sz tx u ys.length news w ∧ RepL κ w news ys.flatten := by
 rcases hk with ⟨e', hk, hns⟩ | ⟨hk, rfl, b, rfl⟩
 ·have e1 : elemsOf h x = some ys := by
   cases x with
   | str b => exact absurd rfl (hns b)
   | _ => exact e
  rcases elemsOf_sound hi r e1 (fun y hh => (hy y hh).1) hpos with ⟨hnil, ba, cap, rfl, hba⟩ | ⟨b, o, cap, rfl, hc⟩
  ·subst hnil
   refine ⟨[], ?_, .nil⟩
   cases ba with
   | none =>
    have := hba rfl
    subst this
    exact Src.ofNil w hk 0
   | some ad => exact Src.ofSlice w hk ad 0 cap [] (by simp) (by simp) (by simp)
  ·obtain ⟨news, n1, n2, n3⟩ := cells_list (fun y hh => (hy y hh).1) hpos hc
   refine ⟨news, Src.ofSlice w hk ⟨b, o, none⟩ ys.length cap news n2 (fun j u hu => by rw [add_off]; exact n3 j u hu) ?_, n1⟩
   refine cellOk_all n1 (List.all_eq_true.2 fun d hd => ?_)
   obtain ⟨y, hy1, hy2⟩ := List.mem_flatten.1 hd
   exact List.all_eq_true.1 (hy y hy1).2 d hy2
 ·cases e
  cases r with
  | str _ hs =>
  have hlen : (⟨b.toArray⟩ : ByteArray).size = (encB b).length := by simp [encB, size_mk]
  refine ⟨byteCells ⟨b.toArray⟩, hlen ▸ Src.ofString w hk _, ?_⟩
  have : (encB b).flatten = b.map fun c => .int .u8 (c.toNat : Int) := by
   clear hlen hs hy
   induction b with
   | nil => rfl
   | cons c b ih => simp [encB] at ih ⊢; exact ih
  rw [this]
  simp only [byteCells]
  clear hlen hs hy this
  induction b with
  | nil => exact .nil
  | cons c b ih => exact .cons (.int _ _) ih
theorem Ev.drew {κ : Kap} {h : AHeap} {w : World} : Ev κ h w κ h w.drew := Ev.of_heap rfl rfl rfl rfl
theorem append_sound [Globs] (hi : Inv κ h w) {t tx ty e : TypeId} {sz by_ : Nat} {z : D} (ht : P.underlying t = some (.slice e)) (hs : sizeOfT P e = some sz) (hb : bytesOfT P e = some by_) (hz : zeroOfT P e = some z) (hzl : (cellsD z).length = sz) (hpos : 0 < sz)
  {s u : Value} {ds x : D} (rs : Rep κ w s ds) {ys : List (List D)} (hy : ∀ y ∈ ys, y.length = sz ∧ y.all cellOk = true) (hbpos : 0 < by_) {news : List Value} (hsrc : Src P sz tx u ys.length news w) (hrn : RepL κ w news ys.flatten)
  (hk : match ds with
    | .nilsl => (ys = [] → K .nilsl h) ∧ ys.length * by_ ≤ 140737488355328 ∧ (ys ≠ [] → ∀ id, h.f id = none → K (.row id (ys.length + 2) 0 ys.length) (h.set id (.row sz (ys.length + 2) ys false)))
    | .row r ver off len => match h.f r with
     | some (.row sz' ver' xs false) => ver = ver' ∧ sz' = sz ∧ off = 0 ∧ len = xs.length ∧ (xs.length + ys.length) * by_ ≤ 140737488355328 ∧
       K (.row r (ver + ys.length) 0 (len + ys.length)) (h.set r (.row sz (ver + ys.length) (xs ++ ys) false))
     | _ => False
    | _ => False) :
  ∃ v w' κ' h' d, (Builtin.append_ #[t, tx] ty #[s, u]).run P w = .ok v w' ∧ K d h' ∧ Rep κ' w' v d ∧ Inv κ' h' w' ∧ Ev κ h w κ' h' w' := by
 obtain ⟨i, i1, i2⟩ := sizeOf_info hs
 obtain ⟨zv, z1, z2, i', i3, i4⟩ := zero_cells hz κ w
 rw [i1] at i3
 cases i3
 have hby : i.bytes = by_ := by
  unfold bytesOfT at hb
  rw [i1] at hb
  simpa using hb
 subst i2
 have hzs : zv.cells.size = i.size := by
  have := z2.length
  simp at this
  omega
 have hnl : news.length = ys.length * i.size := hsrc.newsLen
 cases ds with
 | nilsl =>
  cases rs
  obtain ⟨k1, k2, k3⟩ := hk
  by_cases hnil : ys = []
  ·subst hnil
   simp only [List.length_nil] at hsrc
   refine ⟨.slice none 0 0, w, κ, h, .nilsl, ?_, k1 rfl, .nilsl, hi, Ev.refl κ h w⟩
   have hcl : (Builtin.firstCells i.size 0 u).run P w = .ok news.toArray w := hsrc.cells
   rcases hsrc.kind with ⟨e', hk⟩ | hk <;> simp [Builtin.append_, run_underlying ht, run_underlying hk, sizeOf, typeInfo, i1, hsrc.len, hcl]
  ·have hp : 0 < ys.length := List.length_pos_iff.2 hnil
   have hle : ys.length ≤ 140737488355328 := Nat.le_trans (Nat.le_mul_of_pos_right _ hbpos) k2
   have hrun := run_append_grow_src (P := P) w t tx ty e i zv ht i1 i4 none 0 0 [] (by rw [run_firstCells_none]) u ys.length news hsrc (by omega) (by omega) (by
    rw [hby, Nat.zero_add]
    exact growslice_fits (by omega) k2)
   simp only [Nat.zero_add, List.nil_append] at hrun
   have hcap := grownCap_ge w ys.length 0 e
   have hcapm := grownCap_le_maxLen w ys.length 0 e (by simp only [maxLen]; omega)
   simp only [maxLen] at hcapm
   have hi' : Inv κ h w.drew := hi.of_heap rfl
   have hrn' := hrn.mono (Le.of_heap (κ := κ) (w := w) (w' := w.drew) rfl)
   obtain ⟨κ', h', d, a1, a2, a3, a4⟩ := newRow_obj (K := K) hi' e (cs := news.toArray ++ Builtin.zeroCells zv.cells (grownCap w ys.length 0 e - ys.length)) (xs := ys) (sz := i.size) (cap := grownCap w ys.length 0 e)
    (fun y hh => (hy y hh).1) hcap hcapm (by
     simp only [Array.size_append, List.size_toArray, size_zeroCells, hnl, hzs]
     rw [← Nat.add_mul, Nat.add_sub_cancel' hcap]; exact Nat.le_refl _)
    (fun i1 x j d hx hj => by
     obtain ⟨v, g1, g2⟩ := hrn'.get _ d (flatten_get (fun y hh => (hy y hh).1) hx hj)
     refine ⟨v, ?_, g2⟩
     have hlt := (List.getElem?_eq_some_iff.1 g1).1
     rw [Array.getElem?_append_left (by simpa using hlt)]
     simpa using g1)
    (k3 hnil)
   exact ⟨_, _, κ', h', d, hrun, a1, a2, a3, Ev.drew.trans a4⟩
 | row r ver off len =>
  simp only at hk
  split at hk
  ·rename_i sz' ver' xs ho
   obtain ⟨k1, k2, k3, k4, k5, k6⟩ := hk
   subst k1 k2 k3 k4
   cases rs with
   | row hl hv hn hcap ha hbo =>
   rename_i cap p ad
   obtain ⟨p', hp, hr⟩ := hi.obj _ _ ho
   rw [hl] at hp
   cases hp
   obtain ⟨h1, h1', h2, h3, h4, h5, h5', h6, cs, el, h7, h8, h9⟩ := hr
   by_cases hnil : ys = []
   ·subst hnil
    simp only [List.length_nil, Nat.add_zero, List.append_nil] at k6 hsrc
    have hself : h.set r (.row i.size ver xs false) = h := AHeap.ext fun q => by
     simp only [AHeap.set_f]
     split
     ·rename_i hq; subst hq; exact ho.symm
     ·rfl
    rw [hself] at k6
    refine ⟨.slice (some ad) xs.length cap, w, κ, h, _, ?_, k6, .row hl hv hn hcap ha hbo, hi, Ev.refl κ h w⟩
    have hcl : (Builtin.firstCells i.size 0 u).run P w = .ok news.toArray w := hsrc.cells
    have hnn : news = [] := List.eq_nil_of_length_eq_zero (by simpa using hnl)
    subst hnn
    rcases hsrc.kind with ⟨e', hk⟩ | hk <;> simp [Builtin.append_, run_underlying ht, run_underlying hk, sizeOf, typeInfo, i1, hsrc.len, hcl, hcap, storeCells]
   ·have hpl : 0 < ys.length := List.length_pos_iff.2 hnil
    have hle : xs.length + ys.length ≤ 140737488355328 := Nat.le_trans (Nat.le_mul_of_pos_right _ hbpos) k5
    have hsz' : ∀ y ∈ xs ++ ys, y.length = i.size := fun y hh => by
     rcases List.mem_append.1 hh with hh | hh
     ·exact h6 y hh
     ·exact (hy y hh).1
    by_cases hroom : xs.length + ys.length ≤ cap
    ·-- there is room: in place
     rcases ha h1 with hc0 | ⟨had, hcc⟩
     ·omega
     ·simp only [Nat.zero_mul, Nat.add_zero, Nat.zero_add] at had hcc
      subst had
      have hroom2 : p.base + (xs.length + ys.length) * i.size ≤ cs.size := by
       have : (xs.length + ys.length) * i.size ≤ p.cap * i.size := Nat.mul_le_mul_right _ (by omega)
       omega
      rw [Nat.add_mul] at hroom2
      have hrun := run_append_room_row (P := P) (w := w) (ty := ty) ht i1 h7 hsrc hroom (off := p.base) (by omega)
      let cs' : Array Value := (cs.toList.take (p.base + xs.length * i.size) ++ news ++ cs.toList.drop (p.base + xs.length * i.size + news.length)).toArray
      have le : Le κ w κ (w.setRow p.blk cs') := setRow_le hi ⟨r, _, p, ho, rfl, hl, Own.self⟩ cs'
      let p' : Place := { p with ver := ver + ys.length, old := [], oldOk := by simp }
      have le' : Le κ w (κ.put r p') (w.setRow p.blk cs') := by
       refine ⟨fun b hb => ⟨hb, (le.imm b hb).2⟩, fun q pq hq => ?_⟩
       by_cases hqr : q = r
       ·subst hqr
        rw [hl] at hq
        cases hq
        exact ⟨p', by simp [Kap.put], by simp [p', h1], fun e => absurd (by simpa [p', h1] using e) hnil, PLe.of_new (by omega) rfl⟩
       ·exact ⟨pq, by simp [Kap.put, hqr, hq], Nat.le_refl _, fun _ => rfl, PLe.refl pq⟩
      have hobj : ObjRep (κ.put r p') (w.setRow p.blk cs') p' (.row i.size (ver + ys.length) (xs ++ ys) false) := by
       refine ⟨rfl, by omega, h2, fun e => (by cases e), fun _ => h4 rfl, by simp [p']; omega, h5', hsz', cs', el, setRow_heap w p.blk cs _ el (0, 0) h7, ?_, fun q x j d hx hj => ?_⟩
       ·simp only [cs', p', List.size_toArray, List.length_append, List.length_take, List.length_drop, Array.length_toList]
        omega
       ·have hlt : p.base + xs.length * i.size + news.length ≤ cs.toList.length := by simp; omega
        simp only [cs', List.getElem?_toArray]
        rw [takeDrop_get _ _ _ _ hlt]
        have hj' : j < i.size := by rw [← hsz' x (List.mem_of_getElem? hx)]; exact (List.getElem?_eq_some_iff.1 hj).1
        by_cases hq : q < xs.length
        ·rw [List.getElem?_append_left hq] at hx
         obtain ⟨v, g1, g2⟩ := h9 _ _ _ _ hx hj
         have : q * i.size + i.size ≤ xs.length * i.size := by
          calc q * i.size + i.size = (q + 1) * i.size := by rw [Nat.add_mul, Nat.one_mul]
           _ ≤ xs.length * i.size := Nat.mul_le_mul_right _ hq
         rw [if_neg (by simp only [p']; omega)]
         exact ⟨v, by simpa using g1, g2.mono le'⟩
        ·rw [List.getElem?_append_right (by omega)] at hx
         obtain ⟨v, g1, g2⟩ := hrn.get _ d (flatten_get (fun y hh => (hy y hh).1) hx hj)
         have hlt2 := (List.getElem?_eq_some_iff.1 g1).1
         have hqq : q * i.size = xs.length * i.size + (q - xs.length) * i.size := by rw [← Nat.add_mul]; congr 1; omega
         simp only [p']
         rw [if_pos (by omega)]
         refine ⟨v, ?_, g2.mono le'⟩
         rw [← g1]
         congr 1
         omega
      obtain ⟨c1, c2⟩ := Inv.change (p' := p') hi ho hl rfl (o' := .row i.size (ver + ys.length) (xs ++ ys) false) rfl (w' := w.setRow p.blk cs') (by simp) (by have := hi.locLt r p hl; simpa [p'] using this) (.inl rfl) (by simp [p', h1]) (fun e => absurd (by simpa [p', h1] using e) hnil) (fun e => by omega) rfl rfl rfl (fun b _ hb => setRow_other w p.blk b _ hb) hobj
      refine ⟨_, _, _, _, _, hrun, k6, ?_, c1, c2⟩
      exact .row (p := p') (by simp [Kap.put]) (Nat.le_refl _) (by omega) hroom (fun _ => .inr ⟨by simp [p'], by simp [p']; omega⟩) (by simp [p'])
    ·-- there is none: a new block
     have hi' : Inv κ h w.drew := hi.of_heap rfl
     have ledr : Le κ w κ w.drew := Le.of_heap rfl
     have hold : ∃ olds : List Value, (Builtin.firstCells i.size xs.length (.slice (some ad) xs.length cap)).run P w.drew = .ok olds.toArray w.drew ∧ RepL κ w olds xs.flatten := by
      rcases ha h1 with hc0 | ⟨had, hcc⟩
      ·have hx0 : xs = [] := List.eq_nil_of_length_eq_zero (by omega)
       subst hx0
       exact ⟨[], by rw [run_firstCells_some w.drew i.size _ ad _ cap [] (by simp) (by simp)], .nil⟩
      ·simp only [Nat.zero_mul, Nat.add_zero] at had
       subst had
       obtain ⟨olds, n1, n2, n3⟩ := cells_list (κ := κ) (w := w) (b := p.blk) (o := p.base) h6 hpos fun q y j d hq hj => by
        obtain ⟨v, g1, g2⟩ := h9 q y j d hq hj
        exact ⟨v, by rw [cell_of_row w _ _ cs el _ h7]; exact g1, g2⟩
       exact ⟨olds, run_firstCells_some w.drew i.size _ _ _ cap olds n2 (fun j v hv => by rw [add_off]; exact n3 j v hv), n1⟩
     obtain ⟨olds, o1, o2⟩ := hold
     have hol : olds.length = xs.length * i.size := by rw [o2.length, flatten_length h6]
     have hrun := run_append_grow_src (P := P) w t tx ty e i zv ht i1 i4 (some ad) xs.length cap olds o1 u ys.length news hsrc (by omega) (by omega) (by
      rw [hby]
      exact growslice_fits (by omega) k5)
     have hgc := grownCap_ge w (xs.length + ys.length) cap e
     have hgm := grownCap_le_maxLen w (xs.length + ys.length) cap e (by simp only [maxLen]; omega)
     simp only [maxLen] at hgm
     generalize grownCap w (xs.length + ys.length) cap e = gc at hrun hgc hgm
     have hrn' := (o2.append hrn).mono ledr
     rw [← List.flatten_append] at hrn'
     let cs' : Array Value := (olds ++ news).toArray ++ Builtin.zeroCells zv.cells (gc - (xs.length + ys.length))
     let p' : Place := { blk := w.heap.size, base := 0, ver := ver + ys.length, cap := gc, sz := i.size, rc := none }
     have le' : Le κ w (κ.put r p') (w.drew.alloc (.cells cs' e)) := by
      refine ⟨fun b hb => ⟨hb, heap_alloc_old w.drew _ (hi.immLt b hb)⟩, fun q pq hq => ?_⟩
      by_cases hqr : q = r
      ·subst hqr
       rw [hl] at hq
       cases hq
       exact ⟨p', by simp [Kap.put], by simp [p', h1], fun e => absurd (by simpa [p', h1] using e) hnil, PLe.of_new (by omega) rfl⟩
      ·exact ⟨pq, by simp [Kap.put, hqr, hq], Nat.le_refl _, fun _ => rfl, PLe.refl pq⟩
     have hrn2 := (o2.append hrn).mono le'
     rw [← List.flatten_append] at hrn2
     have hobj : ObjRep (κ.put r p') (w.drew.alloc (.cells cs' e)) p' (.row i.size (ver + ys.length) (xs ++ ys) false) := by
      refine ⟨rfl, by omega, rfl, fun e => (by cases e), fun _ hx => ?_, by simp [p']; exact hgc, hgm, hsz', cs', e, heap_alloc_self w.drew _, ?_, fun q x j d hx hj => ?_⟩
      ·have := hi.immLt _ hx
       simp [p'] at this
      ·simp only [cs', p', Array.size_append, List.size_toArray, List.length_append, size_zeroCells, hol, hnl, hzs]
       rw [← Nat.add_mul, ← Nat.add_mul, Nat.add_sub_cancel' hgc, Nat.zero_add]
       exact Nat.le_refl _
      ·obtain ⟨v, g1, g2⟩ := hrn2.get _ d (flatten_get hsz' hx hj)
       refine ⟨v, ?_, g2⟩
       have hlt := (List.getElem?_eq_some_iff.1 g1).1
       simp only [p', cs', Nat.zero_add]
       rw [Array.getElem?_append_left (by simpa using hlt)]
       simpa using g1
     obtain ⟨c1, c2⟩ := Inv.change (p' := p') hi ho hl rfl (o' := .row i.size (ver + ys.length) (xs ++ ys) false) rfl (w' := w.drew.alloc (.cells cs' e)) (by simp) (by simp [p']) (.inr (Nat.le_refl _)) (by simp [p', h1]) (fun e => absurd (by simpa [p', h1] using e) hnil) (fun e => by omega) rfl rfl rfl
      (fun b hb _ => heap_alloc_old w.drew _ hb) hobj
     refine ⟨_, _, _, _, _, hrun, k6, ?_, c1, c2⟩
     exact .row (p := p') (by simp [Kap.put]) (Nat.le_refl _) (by omega) hgc (fun _ => .inr ⟨by simp [p'], by simp [p']⟩) (by simp [p'])
  ·exact hk.elim
 | _ => exact hk.elim
end Go.Proofs.YtpagdhbmbnoddaaGreatDoor.Zz
namespace Go.Proofs.YtpagdhbmbnoddaaGreatDoor.Zz
variable {P : Program} {κ : Kap} {h : AHeap} {w : World} {σ : Fr} {n : Nat} {a : Act} {K E : D → AHeap → Prop}
theorem frzId_f (h : AHeap) (r q : Nat) : (frzId h r).f q = if q = r then (match h.f r with | some (.row sz ver xs _) => some (.row sz ver xs true) | o => o) else h.f q := by
 unfold frzId
 by_cases e : q = r
 ·subst e
  rw [if_pos rfl]
  split
  ·rename_i sz ver xs fz ho
   simp [ho]
  ·rename_i hno
   cases ho : h.f q with
   | none => rfl
   | some o =>
    cases o with
    | row sz ver xs fz => exact absurd ho (hno sz ver xs fz)
    | _ => rfl
 ·rw [if_neg e]
  split
  ·simp [e]
  ·rfl
theorem frzId_sound [Globs] (hi : Inv κ h w) (r : Nat) : ∃ κ', Inv κ' (frzId h r) w ∧ Ev κ h w κ' (frzId h r) w := by
 cases ho : h.f r with
 | none => 
  have : frzId h r = h := by simp [frzId, ho]
  rw [this]; exact ⟨κ, hi, Ev.refl κ h w⟩
 | some o =>
  cases o with
  | row sz ver xs fz =>
   have e : frzId h r = h.set r (.row sz ver xs true) := by simp [frzId, ho]
   rw [e]
   cases fz with
   | true =>
    have : h.set r (.row sz ver xs true) = h := AHeap.ext fun q => by
     simp only [AHeap.set_f]
     split
     ·rename_i hq; subst hq; exact ho.symm
     ·rfl
    rw [this]
    exact ⟨κ, hi, Ev.refl κ h w⟩
   | false =>
    obtain ⟨κ', h1, h2, _⟩ := hi.freeze ho
    exact ⟨κ', h1, h2⟩
  | _ =>
   have : frzId h r = h := by simp [frzId, ho]
   rw [this]; exact ⟨κ, hi, Ev.refl κ h w⟩
def rowIds : D → List Nat
 | .row r _ _ _ => [r]
 | .agg ds => ds.flatMap fun d => match d with | .row r _ _ _ => [r] | _ => []
 | _ => []
theorem frz_eq (h : AHeap) (d : D) : frz h d = (rowIds d).foldl frzId h := by
 cases d with
 | row r ver off len => rfl
 | agg ds =>
  simp only [frz, rowIds]
  induction ds generalizing h with
  | nil => rfl
  | cons d ds ih =>
   simp only [List.foldl_cons, List.flatMap_cons, List.foldl_append]
   rw [ih]
   congr 1
   cases d <;> rfl
 | _ => rfl
theorem frzL_eq (h : AHeap) (ds : List D) : frzL h ds = (ds.flatMap rowIds).foldl frzId h := by
 unfold frzL
 induction ds generalizing h with
 | nil => rfl
 | cons d ds ih => simp only [List.foldl_cons, List.flatMap_cons, List.foldl_append, ih, frz_eq]
theorem frzs_sound [Globs] (hi : Inv κ h w) (rs : List Nat) : ∃ κ', Inv κ' (rs.foldl frzId h) w ∧ Ev κ h w κ' (rs.foldl frzId h) w := by
 induction rs generalizing κ h with
 | nil => exact ⟨κ, hi, Ev.refl κ h w⟩
 | cons r rs ih =>
  obtain ⟨κ1, h1, e1⟩ := frzId_sound hi r
  obtain ⟨κ2, h2, e2⟩ := ih h1
  exact ⟨κ2, h2, e1.trans e2⟩
def SameRows (h h' : AHeap) : Prop := ∀ r, (∀ sz ver xs fz, h.f r = some (.row sz ver xs fz) → ∃ fz', h'.f r = some (.row sz ver xs fz') ∧ (fz = true → fz' = true)) ∧ ((∀ sz ver xs fz, h.f r ≠ some (.row sz ver xs fz)) → h'.f r = h.f r)
theorem SameRows.frzId (h : AHeap) (r : Nat) : SameRows h (frzId h r) := fun q => by
 rw [frzId_f]
 constructor
 ·intro sz ver xs fz ho
  by_cases e : q = r
  ·subst e; rw [if_pos rfl, ho]; exact ⟨true, rfl, fun _ => rfl⟩
  ·rw [if_neg e]; exact ⟨fz, ho, id⟩
 ·intro hno
  by_cases e : q = r
  ·subst e
   rw [if_pos rfl]
   split
   ·rename_i sz ver xs fz ho; exact absurd ho (hno _ _ _ _)
   ·rfl
  ·rw [if_neg e]
theorem SameRows.refl (h : AHeap) : SameRows h h := fun r => ⟨fun _ _ _ fz e => ⟨fz, e, id⟩, fun _ => rfl⟩
theorem SameRows.trans {h h1 h2 : AHeap} (a : SameRows h h1) (b : SameRows h1 h2) : SameRows h h2 := fun r => by
 constructor
 ·intro sz ver xs fz e
  obtain ⟨fz1, e1, l1⟩ := (a r).1 sz ver xs fz e
  obtain ⟨fz2, e2, l2⟩ := (b r).1 sz ver xs fz1 e1
  exact ⟨fz2, e2, fun x => l2 (l1 x)⟩
 ·intro hno
  have e1 := (a r).2 hno
  rw [← e1]
  exact (b r).2 (by rw [e1]; exact hno)
theorem SameRows.frzs (h : AHeap) (rs : List Nat) : SameRows h (rs.foldl Zz.frzId h) := by
 induction rs generalizing h with
 | nil => exact .refl h
 | cons r rs ih => exact (SameRows.frzId h r).trans (ih _)
theorem frzs_frozen (h : AHeap) (rs : List Nat) {r : Nat} (hr : r ∈ rs) {sz ver : Nat} {xs : List (List D)} {fz : Bool} (ho : h.f r = some (.row sz ver xs fz)) : (rs.foldl frzId h).f r = some (.row sz ver xs true) := by
 induction rs generalizing h fz with
 | nil => cases hr
 | cons q rs ih =>
  simp only [List.foldl_cons]
  by_cases e : r ∈ rs
  ·obtain ⟨fz', e1, _⟩ := ((SameRows.frzId h q) r).1 sz ver xs fz ho
   exact ih _ e e1
  ·have hq : r = q := by
    cases hr with
    | head => rfl
    | tail _ hh => exact absurd hh e
   subst hq
   have e1 : (frzId h r).f r = some (.row sz ver xs true) := by rw [frzId_f, if_pos rfl, ho]
   obtain ⟨fz', e2, l2⟩ := ((SameRows.frzs (frzId h r) rs) r).1 sz ver xs true e1
   rw [l2 rfl] at e2
   exact e2
def plainC (h : AHeap) : D → D
 | .nilsl => .sl []
 | .row r ver off len => match h.f r with
  | some (.row sz ver' xs fz) => if ver = ver' ∧ off + len ≤ xs.length then .sl ((xs.drop off).take len) else .undef
  | _ => .undef
 | d => d
theorem plain_agg (h : AHeap) (ds : List D) : plain h (.agg ds) = .agg (ds.map (plainC h)) := by
 simp only [plain]
 congr 1
theorem plain_eq (h : AHeap) (d : D) (hd : ∀ ds, d ≠ .agg ds) : plain h d = plainC h d := by
 cases d <;> first | rfl | exact absurd rfl (hd _)
theorem plainC_same {h h' : AHeap} (s : SameRows h h') (d : D) : plainC h' d = plainC h d := by
 cases d with
 | row r ver off len =>
  simp only [plainC]
  cases ho : h.f r with
  | none => rw [(s r).2 (by simp [ho]), ho]
  | some o =>
   cases o with
   | row sz ver' xs fz =>
    obtain ⟨fz', e, _⟩ := (s r).1 sz ver' xs fz ho
    rw [e]
   | _ => rw [(s r).2 (by simp [ho]), ho]
 | _ => rfl
theorem plain_same {h h' : AHeap} (s : SameRows h h') (d : D) : plain h' d = plain h d := by
 cases d with
 | agg ds => rw [plain_agg, plain_agg]; congr 1; exact List.map_congr_left fun d _ => plainC_same s d
 | _ => rw [plain_eq _ _ (by simp), plain_eq _ _ (by simp)]; exact plainC_same s _
theorem plainC_rep [Globs] (hi : Inv κ h w) {v : Value} {d : D} (r : Rep κ w v d) (hf : ∀ q ver off len sz ver' xs fz, d = .row q ver off len → h.f q = some (.row sz ver' xs fz) → fz = true) : Rep κ w v (plainC h d) := by
 cases d with
 | nilsl => cases r; exact .slnil fun _ => rfl
 | row q ver off len =>
  simp only [plainC]
  split
  ·rename_i sz ver' xs fz ho
   split
   ·rename_i hc
    obtain ⟨rfl, hle⟩ := hc
    have hfz := hf q ver off len sz ver xs fz rfl ho
    subst hfz
    cases r with
    | row hl hv hn hcap ha hbo =>
    rename_i cap p ad
    obtain ⟨p', hp, hr⟩ := hi.obj _ _ ho
    rw [hl] at hp
    cases hp
    obtain ⟨h1, h1', h2, h3, h4, h5, h5', h6, cs, el, h7, h8, h9⟩ := hr
    have hlen : len = ((xs.drop off).take len).length := by simp; omega
    rcases ha h1 with hc0 | ⟨had, hcc⟩
    ·have hl0 : len = 0 := by omega
     subst hl0
     have hnil : (xs.drop off).take 0 = [] := by simp
     rw [hnil]
     exact .slnil fun e => by cases e
    ·subst had
     refine .sl_of (sz := sz) hlen (fun i j => cs.getD (p.base + off * p.sz + i * sz + j) undef) (by rw [← hlen]; exact hn) (by rw [← hlen]; exact hcap) (fun y hy => h6 y (List.mem_of_mem_drop (List.mem_of_mem_take hy))) (fun i y j d hy hd => ?_) (fun i y j d hy hd => ?_)
     ·rw [List.getElem?_take] at hy
      split at hy
      ·rw [List.getElem?_drop] at hy
       obtain ⟨v, g1, g2⟩ := h9 _ y j d hy hd
       refine ⟨h3 rfl, ?_⟩
       rw [cell_of_row w _ _ cs el _ h7, h2]
       have : p.base + off * sz + i * sz + j = p.base + (off + i) * sz + j := by rw [Nat.add_mul]; omega
       rw [this, g1]
       simp [Array.getD_eq_getD_getElem?, g1]
      ·cases hy
     ·rw [List.getElem?_take] at hy
      split at hy
      ·rw [List.getElem?_drop] at hy
       obtain ⟨v, g1, g2⟩ := h9 _ y j d hy hd
       have : p.base + off * p.sz + i * sz + j = p.base + (off + i) * sz + j := by rw [h2, Nat.add_mul]; omega
       simp only [this, Array.getD_eq_getD_getElem?, g1]
       exact g2
      ·cases hy
   ·exact .undef _
  ·exact .undef _
 | _ => exact r
theorem plain_rep [Globs] (hi : Inv κ h w) {v : Value} {d : D} (r : Rep κ w v d) (hf : ∀ q ∈ rowIds d, ∀ sz ver xs fz, h.f q = some (.row sz ver xs fz) → fz = true) : Rep κ w v (plain h d) := by
 cases d with
 | agg ds =>
  rw [plain_agg]
  cases r with
  | agg hs hr =>
  refine .agg (by simpa using hs) fun i d hd => ?_
  simp only [List.getElem?_map, Option.map_eq_some_iff] at hd
  obtain ⟨d0, h1, rfl⟩ := hd
  refine plainC_rep hi (hr i d0 h1) fun q ver off len sz ver' xs fz e ho => ?_
  subst e
  exact hf q (by simp only [rowIds, List.mem_flatMap]; exact ⟨_, List.mem_of_getElem? h1, by simp⟩) sz ver' xs fz ho
 | row q ver off len =>
  rw [plain_eq _ _ (by simp)]
  exact plainC_rep hi r fun q' _ _ _ sz ver' xs fz e ho => by cases e; exact hf q (by simp [rowIds]) sz ver' xs fz ho
 | _ =>
  rw [plain_eq _ _ (by simp)]
  exact plainC_rep hi r fun _ _ _ _ _ _ _ _ e _ => by cases e
theorem args_plain [Globs] (hi : Inv κ h w) {vs : List Value} {ds : List D} (r : RepL κ w vs ds) : ∃ κ', Inv κ' (frzL h ds) w ∧ Ev κ h w κ' (frzL h ds) w ∧ RepL κ' w vs (ds.map (plain h)) := by
 rw [frzL_eq]
 obtain ⟨κ', h1, e1⟩ := frzs_sound hi (ds.flatMap rowIds)
 refine ⟨κ', h1, e1, RepL.of_get (by simpa using r.length) fun i d hd => ?_⟩
 simp only [List.getElem?_map, Option.map_eq_some_iff] at hd
 obtain ⟨d0, h2, rfl⟩ := hd
 obtain ⟨v, g1, g2⟩ := r.get i d0 h2
 refine ⟨v, g1, ?_⟩
 have same := SameRows.frzs h (ds.flatMap rowIds)
 rw [← plain_same same]
 refine plain_rep h1 (g2.mono (e1.le hi)) fun q hq sz ver xs fz ho => ?_
 cases ho' : h.f q with
 | none => rw [(same q).2 (by simp [ho']), ho'] at ho; cases ho
 | some o =>
  cases o with
  | row sz' ver' xs' fz' =>
   have := frzs_frozen h (ds.flatMap rowIds) (List.mem_flatMap.2 ⟨d0, List.mem_of_getElem? h2, hq⟩) ho'
   rw [this] at ho
   cases ho
   rfl
  | _ => rw [(same q).2 (by simp [ho']), ho'] at ho; cases ho
theorem callFunc_run {f : FuncId} {args : Array Value} (hc : callable P f = true) (w : World) : (callFunc f args).run P w = .ok (.enter f args) w := by
 unfold callable at hc
 split at hc
 ·rename_i fn hfn
  simp only [Bool.and_eq_true, Bool.not_eq_true'] at hc
  obtain ⟨h1, h2⟩ := hc
  have h3 : fn.body.isNone = false := by
   cases hb : fn.body <;> simp [hb] at h2 ⊢
  simp only [callFunc, Sem.run_bind, run_program, Result.andThen, hfn]
  rw [if_neg (by rw [h1]; simp), if_neg (by rw [h3]; simp)]
  rfl
 ·cases hc
theorem Calls.toA [Globs] {f : FuncId} {vs : Array Value} {args : List D} {R : AOut → AHeap → Prop} (hc : ACalls P f args h R) (hi : Inv κ h w) (r : RepL κ w vs.toList args) :
  Calls P f vs w fun e w' => ∃ o h' κ', R o h' ∧ OutRel κ' w' o e ∧ Inv κ' h' w' ∧ Ev κ h w κ' h' w' := hc.2 κ w vs hi r
end Go.Proofs.YtpagdhbmbnoddaaGreatDoor.Zz
