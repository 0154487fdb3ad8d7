/- Rows that only grow: earlier views stay. -/
import Derived.Test.YtpagdhbmbnoddaaGreatDoorZO
set_option linter.unnecessarySimpa false
set_option linter.unusedVariables false
set_option linter.unusedSimpArgs false
namespace Go.Proofs.YtpagdhbmbnoddaaGreatDoor.Zz
variable {P : Program} {κ : Kap} {h : AHeap} {w : World} {K E : D → AHeap → Prop}
theorem RowIn.write {κ' : Kap} {b sz cap m : Nat} {xs : List (List D)} {cs : Array Value} {ty : TypeId} {news : List Value} (r : RowIn κ w b sz cap xs) (hb : w.heap[b]? = some (.cells cs ty (0, 0))) (hsz : ∀ x ∈ xs, x.length = sz)
    (hm : xs.length ≤ m) (hfit : m * sz + news.length ≤ cs.toList.length) (le : Le κ w κ' (w.setRow b (cs.toList.take (m * sz) ++ news ++ cs.toList.drop (m * sz + news.length)).toArray)) :
    RowIn κ' (w.setRow b (cs.toList.take (m * sz) ++ news ++ cs.toList.drop (m * sz + news.length)).toArray) b sz cap xs := by
  obtain ⟨cs0, t0, h1, h2, h3⟩ := r
  rw [hb] at h1
  cases h1
  refine ⟨_, ty, setRow_heap w b cs _ ty (0, 0) hb, ?_, fun i x j d hx hj => ?_⟩
  · simp only [List.size_toArray, List.length_append, List.length_take, List.length_drop, Array.length_toList] at hfit ⊢
    omega
  · obtain ⟨v, g1, g2⟩ := h3 i x j d hx hj
    refine ⟨v, ?_, g2.mono le⟩
    have hj' : j < sz := by rw [← hsz x (List.mem_of_getElem? hx)]; exact (List.getElem?_eq_some_iff.1 hj).1
    have hi' := (List.getElem?_eq_some_iff.1 hx).1
    have : i * sz + sz ≤ m * sz := by
      calc i * sz + sz = (i + 1) * sz := by rw [Nat.add_mul, Nat.one_mul]
        _ ≤ m * sz := Nat.mul_le_mul_right _ (by omega)
    simp only [List.getElem?_toArray]
    rw [takeDrop_get _ _ _ _ hfit, if_neg (by omega)]
    simpa using g1
theorem newArow_obj [Globs] (hi : Inv κ h w) (t : TypeId) {cs : Array Value} {xs : List (List D)} {sz cap : Nat} (hsz : ∀ x ∈ xs, x.length = sz) (hcap : xs.length ≤ cap) (hcm : cap ≤ 9223372036854775807) (hfit : cap * sz ≤ cs.size)
    (hr : ∀ (i : Nat) (x : List D) (j : Nat) (d : D), xs[i]? = some x → x[j]? = some d → ∃ v, cs[i * sz + j]? = some v ∧ Rep κ w v d)
    (hk : ∀ id, h.f id = none → K (.row id 2 0 xs.length) (h.set id (.arow sz 2 xs []))) :
    ∃ κ' h' d, K d h' ∧ Rep κ' (w.alloc (.cells cs t)) (.slice (some ⟨w.heap.size, 0, none⟩) xs.length cap) d ∧ Inv κ' h' (w.alloc (.cells cs t)) ∧ Ev κ h w κ' h' (w.alloc (.cells cs t)) := by
  obtain ⟨id, hid, hf⟩ := hi.new_id
  let p : Place := { blk := w.heap.size, base := 0, ver := 2, cap, sz, rc := none }
  have le := Le.alloc (κ := κ) hi (.cells cs t) hid p
  obtain ⟨i1, e1⟩ := hi.alloc hid hf (.cells cs t) (.arow sz 2 xs []) p rfl rfl rfl ⟨rfl, Nat.le_refl _, rfl, fun hx => by have := hi.immLt _ hx; simp [p] at this, rfl, hcap, hcm, hsz, ⟨cs, t, heap_alloc_self w _, by simpa [p] using hfit, fun i x j d hx hj => by
    obtain ⟨v, g1, g2⟩ := hr i x j d hx hj
    exact ⟨v, g1, g2.mono le⟩⟩, rfl, (by simp [p]), (by simp [p])⟩
  exact ⟨_, _, _, hk id hf, .row (p := p) (by simp [Kap.put]) (Nat.le_refl _) (by omega) hcap (fun _ => .inr ⟨by simp [p], by simp [p]⟩) (by simp [p]), i1, e1⟩
def Place.grown (p : Place) (blk cap len : Nat) : Place :=
  { blk, base := 0, ver := p.ver + 1, cap, sz := p.sz, rc := none, old := ⟨p.ver, p.blk, p.cap, p.sz, len⟩ :: p.old, oldOk := by
      intro e he
      cases he with
      | head => exact ⟨Nat.lt_succ_self _, rfl⟩
      | tail _ he => exact ⟨Nat.lt_succ_of_lt (p.oldOk e he).1, (p.oldOk e he).2⟩ }
theorem PLe.grown {p : Place} {blk cap len : Nat} (h2 : 2 ≤ p.ver) (hb : p.base = 0) : PLe p (p.grown blk cap len) where
  one := fun e => by omega
  lt := fun e he hv => by
    cases he with
    | head => exact absurd hv (Nat.lt_irrefl _)
    | tail _ he => exact he
  eq := fun e he hv hn => by
    cases he with
    | head => exact ⟨hb, rfl, rfl, rfl⟩
    | tail _ he => exact absurd hv (Nat.ne_of_lt (p.oldOk e he).1)
theorem appendA_sound [Globs] (hi : Inv κ h w) {t tx ty e : TypeId} {sz by_ : Nat} {z : D} (ht : P.underlying t = some (.slice e)) (hs : sizeOfT P e = some sz) (hb : bytesOfT P e = some by_) (hz : zeroOfT P e = some z) (hzl : (cellsD z).length = sz) (hpos : 0 < sz)
    {s u : Value} {ds x : D} (rs : Rep κ w s ds) {ys : List (List D)} (hy : ∀ y ∈ ys, y.length = sz ∧ y.all cellOk = true) (hbpos : 0 < by_) {news : List Value} (hsrc : Src P sz tx u ys.length news w) (hrn : RepL κ w news ys.flatten) (hnil : ys ≠ [])
    (hk : match ds with
       | .nilsl => ys.length * by_ ≤ 140737488355328 ∧ ∀ id, h.f id = none → K (.row id 2 0 ys.length) (h.set id (.arow sz 2 ys []))
       | .row r ver off len => match h.f r with
         | some (.arow sz' ver' xs old) => ver = ver' ∧ sz' = sz ∧ off = 0 ∧ len = xs.length ∧ (xs.length + ys.length) * by_ ≤ 140737488355328 ∧
             K (.row r (ver + 1) 0 (len + ys.length)) (h.set r (.arow sz (ver + 1) (xs ++ ys) ((ver, len) :: old)))
         | _ => False
       | _ => False) :
    ∃ v w' κ' h' d, (Builtin.append_ #[t, tx] ty #[s, u]).run P w = .ok v w' ∧ K d h' ∧ Rep κ' w' v d ∧ Inv κ' h' w' ∧ Ev κ h w κ' h' w' := by
  obtain ⟨i, i1, i2⟩ := sizeOf_info hs
  obtain ⟨zv, z1, z2, i', i3, i4⟩ := zero_cells hz κ w
  rw [i1] at i3
  cases i3
  have hby : i.bytes = by_ := by
    unfold bytesOfT at hb
    rw [i1] at hb
    simpa using hb
  subst i2
  have hzs : zv.cells.size = i.size := by
    have := z2.length
    simp at this
    omega
  have hnl : news.length = ys.length * i.size := hsrc.newsLen
  have hpl : 0 < ys.length := List.length_pos_iff.2 hnil
  cases ds with
  | nilsl =>
    cases rs
    obtain ⟨k2, k3⟩ := hk
    have hle : ys.length ≤ 140737488355328 := Nat.le_trans (Nat.le_mul_of_pos_right _ hbpos) k2
    have hrun := run_append_grow_src (P := P) w t tx ty e i zv ht i1 i4 none 0 0 [] (by rw [run_firstCells_none]) u ys.length news hsrc (by omega) (by omega) (by
      rw [hby, Nat.zero_add]
      exact growslice_fits (by omega) k2)
    simp only [Nat.zero_add, List.nil_append] at hrun
    have hcap := grownCap_ge w ys.length 0 e
    have hcapm := grownCap_le_maxLen w ys.length 0 e (by simp only [maxLen]; omega)
    simp only [maxLen] at hcapm
    have hi' : Inv κ h w.drew := hi.of_heap rfl
    have hrn' := hrn.mono (Le.of_heap (κ := κ) (w := w) (w' := w.drew) rfl)
    obtain ⟨κ', h', d, a1, a2, a3, a4⟩ := newArow_obj (K := K) hi' e (cs := news.toArray ++ Builtin.zeroCells zv.cells (grownCap w ys.length 0 e - ys.length)) (xs := ys) (sz := i.size) (cap := grownCap w ys.length 0 e)
      (fun y hh => (hy y hh).1) hcap hcapm (by
        simp only [Array.size_append, List.size_toArray, size_zeroCells, hnl, hzs]
        rw [← Nat.add_mul, Nat.add_sub_cancel' hcap]; exact Nat.le_refl _)
      (fun i1 x j d hx hj => by
        obtain ⟨v, g1, g2⟩ := hrn'.get _ d (flatten_get (fun y hh => (hy y hh).1) hx hj)
        refine ⟨v, ?_, g2⟩
        have hlt := (List.getElem?_eq_some_iff.1 g1).1
        rw [Array.getElem?_append_left (by simpa using hlt)]
        simpa using g1)
      k3
    exact ⟨_, _, κ', h', d, hrun, a1, a2, a3, Ev.drew.trans a4⟩
  | row r ver off len =>
    simp only at hk
    split at hk
    · rename_i sz' ver' xs old ho
      obtain ⟨k1, k2, k3, k4, k5, k6⟩ := hk
      subst k1 k2 k3 k4
      cases rs with
      | row hl hv hn hcap ha hbo =>
      rename_i cap p ad
      obtain ⟨p', hp, hr⟩ := hi.obj _ _ ho
      rw [hl] at hp
      cases hp
      obtain ⟨h1, h1', h2, h4, h3, h5, h5', h6, ⟨cs, el, h7, h8, h9⟩, h10, h11, h12⟩ := hr
      have hle : xs.length + ys.length ≤ 140737488355328 := Nat.le_trans (Nat.le_mul_of_pos_right _ hbpos) k5
      have hsz' : ∀ y ∈ xs ++ ys, y.length = i.size := fun y hh => by
        rcases List.mem_append.1 hh with hh | hh
        · exact h6 y hh
        · exact (hy y hh).1
      have htk : ∀ n, n ≤ xs.length → (xs ++ ys).take n = xs.take n := fun n hn => by rw [List.take_append_of_le_length hn]
      have close : ∀ (blk gc : Nat) (w' : World), w.heap.size ≤ w'.heap.size → blk < w'.heap.size → (blk = p.blk ∨ w.heap.size ≤ blk) → w'.os = w.os → w'.tape = w.tape → w'.output = w.output →
          (∀ b, b < w.heap.size → b ≠ p.blk → w'.heap[b]? = w.heap[b]?) → xs.length + ys.length ≤ gc → gc ≤ 9223372036854775807 →
          (∀ κ', κ' = κ.put r (p.grown blk gc xs.length) → Le κ w κ' w' → RowIn κ' w' blk i.size gc (xs ++ ys) ∧ RowIn κ' w' p.blk i.size p.cap xs ∧ ∀ e ∈ p.old, RowIn κ' w' e.blk i.size e.cap (xs.take e.len)) →
          Inv (κ.put r (p.grown blk gc xs.length)) (h.set r (.arow i.size (ver + 1) (xs ++ ys) ((ver, xs.length) :: old))) w' ∧ Ev κ h w (κ.put r (p.grown blk gc xs.length)) (h.set r (.arow i.size (ver + 1) (xs ++ ys) ((ver, xs.length) :: old))) w' := fun blk gc w' q1 q2 q3 q4 q5 q6 q7 q8 q9 q10 => by
        have hle : Le κ w (κ.put r (p.grown blk gc xs.length)) w' := by
          refine ⟨fun b hb => ⟨hb, q7 b (hi.immLt b hb) fun eb => h4 (eb ▸ hb)⟩, fun q pq hq => ?_⟩
          by_cases hqr : q = r
          · subst hqr
            rw [hl] at hq
            cases hq
            exact ⟨p.grown blk gc xs.length, by simp [Kap.put], Nat.le_succ _, fun e => absurd e (Nat.succ_ne_self _), PLe.grown (by omega) h3⟩
          · exact ⟨pq, by simp [Kap.put, hqr, hq], Nat.le_refl _, fun _ => rfl, PLe.refl pq⟩
        obtain ⟨r1, r2, r3⟩ := q10 _ rfl hle
        refine hi.changeA ho hl rfl (o' := .arow i.size (ver + 1) (xs ++ ys) ((ver, xs.length) :: old)) rfl q1 q2 (fun b hbo => ?_) (Nat.le_succ _) (fun e => absurd e (Nat.succ_ne_self _)) (PLe.grown (by omega) h3) q4 q5 q6 (fun b hb hno => q7 b hb fun eb => hno (eb ▸ Own.self)) ?_
        · rcases hbo with hbo | ⟨e, he, hbo⟩
          · rcases q3 with q3 | q3
            · exact .inl (.inl (q3 ▸ hbo))
            · exact .inr (hbo ▸ q3)
          · cases he with
            | head => exact .inl (.inl hbo)
            | tail _ he => exact .inl (.inr ⟨e, he, hbo⟩)
        · refine ⟨by simp [Place.grown, h1], by omega, h2, fun hx => ?_, rfl, by simpa [Place.grown] using q8, q9, hsz', r1, ?_, fun e he => ?_, ?_⟩
          · rcases q3 with q3 | q3
            · exact h4 (q3 ▸ hx)
            · have := hi.immLt _ hx
              simp only [Place.grown] at this
              omega
          · simp [Place.grown, h10, h1]
          · cases he with
            | head => exact ⟨by show 2 ≤ p.ver; omega, by show p.ver < ver + 1; omega, h2, h4, h5, h5', by simp, by simpa using r2⟩
            | tail _ he =>
              obtain ⟨g1, g2, g3, g4, g5, g6, g7, g8⟩ := h11 e he
              exact ⟨g1, by omega, g3, g4, g5, g6, by simp; omega, by rw [htk _ g7]; exact r3 e he⟩
          · refine List.pairwise_cons.2 ⟨fun e he => ?_, h12⟩
            obtain ⟨g1, g2, g3, g4, g5, g6, g7, g8⟩ := h11 e he
            exact ⟨(p.oldOk e he).1, g7⟩
      by_cases hroom : xs.length + ys.length ≤ cap
      · -- there is room: in place
        rcases ha h1 with hc0 | ⟨had, hcc⟩
        · omega
        · simp only [Nat.zero_mul, Nat.add_zero, Nat.zero_add, h3] at had hcc
          subst had
          have hroom2 : (xs.length + ys.length) * i.size ≤ cs.size := by
            have : (xs.length + ys.length) * i.size ≤ p.cap * i.size := Nat.mul_le_mul_right _ (by omega)
            omega
          rw [Nat.add_mul] at hroom2
          have hrun := run_append_room_row (P := P) (w := w) (ty := ty) ht i1 h7 hsrc hroom (off := 0) (by omega)
          simp only [Nat.zero_add] at hrun
          have hfit : xs.length * i.size + news.length ≤ cs.toList.length := by simp; omega
          obtain ⟨c1, c2⟩ := close p.blk p.cap (w.setRow p.blk (cs.toList.take (xs.length * i.size) ++ news ++ cs.toList.drop (xs.length * i.size + news.length)).toArray) (by simp) (by simpa using hi.locLt r p hl) (.inl rfl) rfl rfl rfl (fun b _ hb => setRow_other w p.blk b _ hb) (by omega) h5' fun κ' hκ le' => by
            refine ⟨?_, RowIn.write ⟨cs, el, h7, h8, h9⟩ h7 h6 (Nat.le_refl _) hfit le', fun e he => ?_⟩
            · refine ⟨_, el, setRow_heap w p.blk cs _ el (0, 0) h7, ?_, fun q x j d hx hj => ?_⟩
              · simp only [List.size_toArray, List.length_append, List.length_take, List.length_drop, Array.length_toList]
                omega
              · simp only [List.getElem?_toArray]
                rw [takeDrop_get _ _ _ _ hfit]
                have hj' : j < i.size := by rw [← hsz' x (List.mem_of_getElem? hx)]; exact (List.getElem?_eq_some_iff.1 hj).1
                by_cases hq : q < xs.length
                · rw [List.getElem?_append_left hq] at hx
                  obtain ⟨v, g1, g2⟩ := h9 _ _ _ _ hx hj
                  have : q * i.size + i.size ≤ xs.length * i.size := by
                    calc q * i.size + i.size = (q + 1) * i.size := by rw [Nat.add_mul, Nat.one_mul]
                      _ ≤ xs.length * i.size := Nat.mul_le_mul_right _ hq
                  rw [if_neg (by omega)]
                  exact ⟨v, by simpa using g1, g2.mono le'⟩
                · rw [List.getElem?_append_right (by omega)] at hx
                  obtain ⟨v, g1, g2⟩ := hrn.get _ d (flatten_get (fun y hh => (hy y hh).1) hx hj)
                  have hlt2 := (List.getElem?_eq_some_iff.1 g1).1
                  have hqq : q * i.size = xs.length * i.size + (q - xs.length) * i.size := by rw [← Nat.add_mul]; congr 1; omega
                  rw [if_pos (by omega)]
                  refine ⟨v, ?_, g2.mono le'⟩
                  rw [← g1]
                  congr 1
                  omega
            · obtain ⟨g1, g2, g3, g4, g5, g6, g7, g8⟩ := h11 e he
              by_cases eb : e.blk = p.blk
              · rw [eb] at g8 ⊢
                exact RowIn.write g8 h7 (fun x hx => h6 x (List.mem_of_mem_take hx)) (by simp; omega) hfit le'
              · exact g8.mono le' (setRow_other w p.blk e.blk _ eb)
          refine ⟨_, _, _, _, _, hrun, k6, ?_, c1, c2⟩
          exact .row (p := p.grown p.blk p.cap xs.length) (by simp [Kap.put]) (by simp [Place.grown, h1]) (by omega) hroom (fun _ => .inr ⟨by simp [Place.grown], by simp [Place.grown]; omega⟩) fun e he ev => by
            have := ((p.grown p.blk p.cap xs.length).oldOk e he).1
            simp only [Place.grown] at this
            omega
      · -- there is none: a new block
        have ledr : Le κ w κ w.drew := Le.of_heap rfl
        have hold : ∃ olds : List Value, (Builtin.firstCells i.size xs.length (.slice (some ad) xs.length cap)).run P w.drew = .ok olds.toArray w.drew ∧ RepL κ w olds xs.flatten := by
          rcases ha h1 with hc0 | ⟨had, hcc⟩
          · have hx0 : xs = [] := List.eq_nil_of_length_eq_zero (by omega)
            subst hx0
            exact ⟨[], by rw [run_firstCells_some w.drew i.size _ ad _ cap [] (by simp) (by simp)], .nil⟩
          · simp only [Nat.zero_mul, Nat.add_zero, h3] at had
            subst had
            obtain ⟨olds, n1, n2, n3⟩ := cells_list (κ := κ) (w := w) (b := p.blk) (o := 0) h6 hpos fun q y j d hq hj => by
              obtain ⟨v, g1, g2⟩ := h9 q y j d hq hj
              exact ⟨v, by rw [cell_of_row w _ _ cs el _ h7, Nat.zero_add]; exact g1, g2⟩
            exact ⟨olds, run_firstCells_some w.drew i.size _ _ _ cap olds n2 (fun j v hv => by rw [add_off]; exact n3 j v hv), n1⟩
        obtain ⟨olds, o1, o2⟩ := hold
        have hol : olds.length = xs.length * i.size := by rw [o2.length, flatten_length h6]
        have hrun := run_append_grow_src (P := P) w t tx ty e i zv ht i1 i4 (some ad) xs.length cap olds o1 u ys.length news hsrc (by omega) (by omega) (by
          rw [hby]
          exact growslice_fits (by omega) k5)
        have hgc := grownCap_ge w (xs.length + ys.length) cap e
        have hgm := grownCap_le_maxLen w (xs.length + ys.length) cap e (by simp only [maxLen]; omega)
        simp only [maxLen] at hgm
        generalize grownCap w (xs.length + ys.length) cap e = gc at hrun hgc hgm
        let cs' : Array Value := (olds ++ news).toArray ++ Builtin.zeroCells zv.cells (gc - (xs.length + ys.length))
        obtain ⟨c1, c2⟩ := close w.heap.size gc (w.drew.alloc (.cells cs' e)) (by simp) (by simp) (.inr (Nat.le_refl _)) rfl rfl rfl (fun b hb _ => heap_alloc_old w.drew _ hb) hgc hgm fun κ' hκ le' => by
          have hrn2 := (o2.append hrn).mono le'
          rw [← List.flatten_append] at hrn2
          refine ⟨⟨cs', e, heap_alloc_self w.drew _, ?_, fun q x j d hx hj => ?_⟩, RowIn.mono ⟨cs, el, h7, h8, h9⟩ le' (heap_alloc_old w.drew _ (hi.locLt r p hl)), fun e' he => ?_⟩
          · simp only [cs', Array.size_append, List.size_toArray, List.length_append, size_zeroCells, hol, hnl, hzs]
            rw [← Nat.add_mul, ← Nat.add_mul, Nat.add_sub_cancel' hgc]
            exact Nat.le_refl _
          · obtain ⟨v, g1, g2⟩ := hrn2.get _ d (flatten_get hsz' hx hj)
            refine ⟨v, ?_, g2⟩
            have hlt := (List.getElem?_eq_some_iff.1 g1).1
            simp only [cs']
            rw [Array.getElem?_append_left (by simpa using hlt)]
            simpa using g1
          · obtain ⟨g1, g2, g3, g4, g5, g6, g7, g8⟩ := h11 e' he
            exact g8.mono le' (heap_alloc_old w.drew _ (hi.own_lt ho hl (.inr ⟨e', he, rfl⟩)))
        refine ⟨_, _, _, _, _, hrun, k6, ?_, c1, c2⟩
        exact .row (p := p.grown w.heap.size gc xs.length) (by simp [Kap.put]) (by simp [Place.grown, h1]) (by omega) hgc (fun _ => .inr ⟨by simp [Place.grown], by simp [Place.grown]⟩) fun e he ev => by
          have := ((p.grown w.heap.size gc xs.length).oldOk e he).1
          simp only [Place.grown] at this
          omega
    · exact hk.elim
  | _ => exact hk.elim
theorem cutD_sound [Globs] (hi : Inv κ h w) {v : Value} {d d' : D} {h' : AHeap} (r : Rep κ w v d) (e : cutD h d = some (d', h')) : ∃ κ', Inv κ' h' w ∧ Ev κ h w κ' h' w ∧ Rep κ' w v d' := by
  unfold cutD at e
  split at e
  · cases e; exact ⟨κ, hi, Ev.refl κ h w, r⟩
  · rename_i q ver off len
    split at e
    · rename_i sz cur xs old ho
      split at e
      · rename_i hoff
        subst hoff
        split at e
        · cases e; exact ⟨κ, hi, Ev.refl κ h w, r⟩
        · split at e
          · rename_i hmem
            cases e
            cases r with
            | row hl hv hn hcap ha hbo =>
            rename_i cap p ad
            obtain ⟨p', hp, hr⟩ := hi.obj _ _ ho
            rw [hl] at hp
            cases hp
            obtain ⟨h1, h1', h2, h4, h3, h5, h5', h6, h9, h10, h11, h12⟩ := hr
            rw [← h10] at hmem
            obtain ⟨o, ho1, ho2⟩ := List.mem_map.1 hmem
            obtain ⟨rfl, rfl⟩ := Prod.mk.inj ho2
            obtain ⟨g1, g2, g3, g4, g5, g6, g7, g8⟩ := h11 o ho1
            let p2 : Place := { blk := o.blk, base := 0, ver := p.ver + 1, cap := o.cap, sz := p.sz, rc := none, old := p.old.filter fun e => decide (e.ver ≤ o.ver), oldOk := fun e he => ⟨Nat.lt_succ_of_lt (p.oldOk e (List.mem_filter.1 he).1).1, (p.oldOk e (List.mem_filter.1 he).1).2⟩ }
            have ple : PLe p p2 := ⟨fun e => by omega, fun e he _ => (List.mem_filter.1 he).1, fun e he hv _ => absurd hv (Nat.ne_of_lt (p.oldOk e (List.mem_filter.1 he).1).1)⟩
            have le : Le κ w (κ.put q p2) w := ⟨fun b hb => ⟨hb, rfl⟩, fun j pj hj => by
              by_cases hjq : j = q
              · subst hjq
                rw [hl] at hj
                cases hj
                exact ⟨p2, by simp [Kap.put], Nat.le_succ _, fun e => absurd e (Nat.succ_ne_self _), ple⟩
              · exact ⟨pj, by simp [Kap.put, hjq, hj], Nat.le_refl _, fun _ => rfl, PLe.refl pj⟩⟩
            have mono : ∀ e ∈ p.old, e.ver ≤ o.ver → e.len ≤ o.len := fun e he hle => by
              have key : ∀ {l : List Old}, l.Pairwise (fun a b => b.ver < a.ver ∧ b.len ≤ a.len) → o ∈ l → e ∈ l → e.len ≤ o.len := by
                intro l hl
                induction hl with
                | nil => intro x; cases x
                | cons hd _ ih =>
                  intro x y
                  cases x with
                  | head => cases y with
                    | head => exact Nat.le_refl _
                    | tail _ y => exact (hd e y).2
                  | tail _ x => cases y with
                    | head => have := (hd o x).1; omega
                    | tail _ y => exact ih x y
              exact key h12 ho1 he
            obtain ⟨c1, c2⟩ := hi.changeA (p' := p2) ho hl rfl (o' := .arow sz (cur + 1) (xs.take o.len) (old.filter fun e => decide (e.1 ≤ o.ver))) rfl (w' := w) (Nat.le_refl _) (hi.own_lt ho hl (.inr ⟨o, ho1, rfl⟩)) (fun b hb => by
              rcases hb with hb | ⟨e, he, hb⟩
              · exact .inl (.inr ⟨o, ho1, hb⟩)
              · exact .inl (.inr ⟨e, (List.mem_filter.1 he).1, hb⟩)) (Nat.le_succ _) (fun e => absurd e (Nat.succ_ne_self _)) ple rfl rfl rfl (fun _ _ _ => rfl) (by
              refine ⟨by simp [p2, h1], by omega, h2, g4, rfl, by simp [p2]; omega, g6, fun x hx => h6 x (List.mem_of_mem_take hx), g8.mono le rfl, ?_, fun e he => ?_, h12.sublist List.filter_sublist⟩
              · rw [← h10, List.filter_map]; rfl
              · obtain ⟨he1, he2⟩ := List.mem_filter.1 he
                have he3 : e.ver ≤ o.ver := by simpa using he2
                obtain ⟨k1, k2, k3, k4, k5, k6, k7, k8⟩ := h11 e he1
                have hml := mono e he1 he3
                refine ⟨k1, by omega, k3, k4, k5, k6, by simp; omega, ?_⟩
                rw [List.take_take, Nat.min_eq_left hml]
                exact k8.mono le rfl)
            refine ⟨_, c1, c2, .row (p := p2) (by simp [Kap.put]) (by simp [p2, h1]) hn hcap (fun _ => ?_) fun e he ev => ?_⟩
            · rcases hbo o ho1 rfl with k | ⟨k1, k2⟩
              · exact .inl k
              · exact .inr ⟨by rw [k1]; simp [p2], by simpa [p2] using k2⟩
            · have := (p2.oldOk e he).1
              simp only [p2] at this
              omega
          · cases e
      · cases e
    · cases e
  · cases e
theorem cutL_sound [Globs] : ∀ {ds ds' : List D} {κ : Kap} {h h' : AHeap} {f : Nat → Value}, Inv κ h w → (∀ i d, ds[i]? = some d → Rep κ w (f i) d) → cutL h ds = some (ds', h') → ∃ κ', Inv κ' h' w ∧ Ev κ h w κ' h' w ∧ ds'.length = ds.length ∧ ∀ i d, ds'[i]? = some d → Rep κ' w (f i) d
  | [], ds', κ, h, h', f, hi, hr, e => by
    cases e
    exact ⟨κ, hi, Ev.refl κ h w, rfl, fun i d hd => by simp at hd⟩
  | d :: ds, ds', κ, h, h', f, hi, hr, e => by
    unfold cutL at e
    split at e
    · rename_i d1 h1 e1
      split at e
      · rename_i ds2 h2 e2
        cases e
        obtain ⟨κ1, i1, v1, r1⟩ := cutD_sound hi (hr 0 d rfl) e1
        obtain ⟨κ2, i2, v2, l2, r2⟩ := cutL_sound (f := fun i => f (i + 1)) i1 (fun i x hx => (hr (i + 1) x hx).mono (v1.le hi)) e2
        refine ⟨κ2, i2, v1.trans v2, by simp [l2], fun i x hx => ?_⟩
        cases i with
        | zero => cases hx; exact r1.mono (v2.le i1)
        | succ i => exact r2 i x hx
      · cases e
    · cases e
theorem cutV_sound [Globs] (hi : Inv κ h w) {v : Value} {d d' : D} {h' : AHeap} (r : Rep κ w v d) (e : cutV h d = some (d', h')) : ∃ κ', Inv κ' h' w ∧ Ev κ h w κ' h' w ∧ Rep κ' w v d' := by
  unfold cutV at e
  split at e
  · split at e
    · rename_i ds ds' h2 e2
      cases e
      cases r with
      | agg hs hr =>
      rename_i cs
      obtain ⟨κ1, i1, v1, l1, r1⟩ := cutL_sound (f := fun i => cs.getD i (.tuple #[])) hi hr e2
      exact ⟨κ1, i1, v1, .agg (by omega) r1⟩
    · cases e
  · cases e
end Go.Proofs.YtpagdhbmbnoddaaGreatDoor.Zz
