/- append; strings of bytes. -/
import Derived.Test.YthpgepillaeldaaDoorZM
set_option linter.unusedVariables false
set_option linter.unusedSimpArgs false
namespace Go.Proofs.YthpgepillaeldaaDoor.Zz
variable {P : Program} {κ : Kap} {h : AHeap} {w : World} {σ : Fr} {n : Nat} {a : Act} {K E : D → AHeap → Prop}

theorem run_append_room_row {t tx ty e : TypeId} {i : TypeInfo} (ht : P.underlying t = some (.slice e)) (hi : P.info? e = some i) {g off sLen sCap : Nat} {cur : Array Value} {el : TypeId} (hg : w.heap[g]? = some (.cells cur el (0, 0)))
    {x : Value} {m : Nat} {news : List Value} (hs : Src P i.size tx x m news w) (hroom : sLen + m ≤ sCap) (hfit : off + sLen * i.size + news.length ≤ cur.size) :
    (Builtin.append_ #[t, tx] ty #[.slice (some ⟨g, off, none⟩) sLen sCap, x]).run P w =
      .ok (.slice (some ⟨g, off, none⟩) (sLen + m) sCap) (w.setRow g (cur.toList.take (off + sLen * i.size) ++ news ++ cur.toList.drop (off + sLen * i.size + news.length)).toArray) := by
  have hst := run_storeCells_at P g (off + sLen * i.size) el news 0 cur w hg (by simpa using hfit) hs.one
  simp only [Nat.add_zero] at hst
  rcases hs.kind with ⟨e', hk⟩ | hk <;> simp [Builtin.append_, run_underlying ht, run_underlying hk, sizeOf, typeInfo, hi, hs.len, hroom, hs.cells, Addr.add_lit, hst]

/-- The cells of a slice, one behind the other. -/
theorem cells_list {b o sz : Nat} {ys : List (List D)} (hy : ∀ y ∈ ys, y.length = sz) (hpos : 0 < sz)
    (hc : ∀ (i : Nat) (y : List D) (j : Nat) (d : D), ys[i]? = some y → y[j]? = some d → ∃ v, w.cell? ⟨b, o + i * sz + j, none⟩ = some v ∧ Rep κ w v d) :
    ∃ news : List Value, RepL κ w news ys.flatten ∧ news.length = ys.length * sz ∧ ∀ j u, news[j]? = some u → w.cell? ⟨b, o + j, none⟩ = some u := by
  have hex : ∀ k, ∃ v, ∀ i y j d, k = i * sz + j → ys[i]? = some y → y[j]? = some d → w.cell? ⟨b, o + k, none⟩ = some v ∧ Rep κ w v d := fun k => by
    by_cases hk' : ∃ i y j d, k = i * sz + j ∧ ys[i]? = some y ∧ y[j]? = some d
    · obtain ⟨i, y, j, d, rfl, h1, h2⟩ := hk'
      obtain ⟨v, g1, g2⟩ := hc i y j d h1 h2
      refine ⟨v, fun i' y' j' d' he h1' h2' => ?_⟩
      have hj : j < sz := by rw [← hy y (List.mem_of_getElem? h1)]; exact (List.getElem?_eq_some_iff.1 h2).1
      have hj' : j' < sz := by rw [← hy y' (List.mem_of_getElem? h1')]; exact (List.getElem?_eq_some_iff.1 h2').1
      have hdiv : i = i' := by
        have a1 : (i * sz + j) / sz = i := by rw [Nat.mul_comm, Nat.mul_add_div hpos, Nat.div_eq_of_lt hj, Nat.add_zero]
        have a2 : (i' * sz + j') / sz = i' := by rw [Nat.mul_comm, Nat.mul_add_div hpos, Nat.div_eq_of_lt hj', Nat.add_zero]
        rw [← a1, ← a2, he]
      subst hdiv
      have hjj : j = j' := by omega
      subst hjj
      rw [h1] at h1'
      cases h1'
      rw [h2] at h2'
      cases h2'
      exact ⟨by rw [← Nat.add_assoc]; exact g1, g2⟩
    · exact ⟨undef, fun i y j d he h1 h2 => absurd ⟨i, y, j, d, he, h1, h2⟩ hk'⟩
  obtain ⟨f, hf⟩ := Classical.axiomOfChoice hex
  have hfl : ys.flatten.length = ys.length * sz := flatten_length hy
  -- each cell of the flattened list comes from an element
  have hcell : ∀ k (d : D), ys.flatten[k]? = some d → w.cell? ⟨b, o + k, none⟩ = some (f k) ∧ Rep κ w (f k) d := fun k d hd => by
    have hk' : k < ys.length * sz := by rw [← hfl]; exact (List.getElem?_eq_some_iff.1 hd).1
    have hi' : k / sz < ys.length := by rw [Nat.div_lt_iff_lt_mul hpos]; exact hk'
    have hlen := hy _ (List.getElem_mem hi')
    have hj' : k % sz < ys[k / sz].length := by rw [hlen]; exact Nat.mod_lt _ hpos
    have hdm : k = k / sz * sz + k % sz := by rw [Nat.mul_comm]; exact (Nat.div_add_mod k sz).symm
    have h2 := flatten_get hy (i := k / sz) (j := k % sz) (x := ys[k / sz]) (d := ys[k / sz][k % sz]) (by simp [hi']) (by simp [hj'])
    rw [← hdm, hd] at h2
    cases h2
    obtain ⟨g1, g2⟩ := hf k (k / sz) ys[k / sz] (k % sz) _ hdm (List.getElem?_eq_getElem hi') (List.getElem?_eq_getElem hj')
    exact ⟨g1, g2⟩
  have hrep : RepL κ w ((List.range (ys.length * sz)).map f) ys.flatten := RepL.of_get (by simp [hfl]) fun k d hd => by
    have hk' : k < ys.length * sz := by rw [← hfl]; exact (List.getElem?_eq_some_iff.1 hd).1
    exact ⟨f k, by simp [hk'], (hcell k d hd).2⟩
  refine ⟨(List.range (ys.length * sz)).map f, hrep, by simp, fun j u hu => ?_⟩
  have hj : j < ys.length * sz := by
    have := (List.getElem?_eq_some_iff.1 hu).1
    simpa using this
  have hd : ys.flatten[j]? = some (ys.flatten[j]'(by rw [hfl]; exact hj)) := by simp [hfl, hj]
  rw [(hcell j _ hd).1]
  simpa [hj] using hu

/-- What is appended, as the model reads it. -/
theorem src_of [Globs] (hi : Inv κ h w) {tx : TypeId} {sz : Nat} (hpos : 0 < sz) {u : Value} {x : D} (r : Rep κ w u x) {ys : List (List D)} (e : (match x with | .str b => some (encB b) | x => elemsOf h x) = some ys)
    (hk : (∃ e', P.underlying tx = some (.slice e') ∧ (∀ b, x ≠ .str b)) ∨ (P.underlying tx = some .string ∧ sz = 1 ∧ ∃ b, x = .str b)) (hy : ∀ y ∈ ys, y.length = sz ∧ y.all cellOk = true) :
    ∃ news, Src P sz tx u ys.length news w ∧ RepL κ w news ys.flatten := by
  rcases hk with ⟨e', hk, hns⟩ | ⟨hk, rfl, b, rfl⟩
  · have e1 : elemsOf h x = some ys := by
      cases x with
      | str b => exact absurd rfl (hns b)
      | _ => exact e
    rcases elemsOf_sound hi r e1 (fun y hh => (hy y hh).1) hpos with ⟨hnil, ba, cap, rfl, hba⟩ | ⟨b, o, cap, rfl, hc⟩
    · subst hnil
      refine ⟨[], ?_, .nil⟩
      cases ba with
      | none =>
        have := hba rfl
        subst this
        exact Src.ofNil w hk 0
      | some ad => exact Src.ofSlice w hk ad 0 cap [] (by simp) (by simp) (by simp)
    · obtain ⟨news, n1, n2, n3⟩ := cells_list (fun y hh => (hy y hh).1) hpos hc
      refine ⟨news, Src.ofSlice w hk ⟨b, o, none⟩ ys.length cap news n2 (fun j u hu => by rw [add_off]; exact n3 j u hu) ?_, n1⟩
      refine cellOk_all n1 (List.all_eq_true.2 fun d hd => ?_)
      obtain ⟨y, hy1, hy2⟩ := List.mem_flatten.1 hd
      exact List.all_eq_true.1 (hy y hy1).2 d hy2
  · cases e
    cases r with
    | str _ hs =>
    have hlen : (⟨b.toArray⟩ : ByteArray).size = (encB b).length := by simp [encB, size_mk]
    refine ⟨byteCells ⟨b.toArray⟩, hlen ▸ Src.ofString w hk _, ?_⟩
    have : (encB b).flatten = b.map fun c => .int .u8 (c.toNat : Int) := by
      clear hlen hs hy
      induction b with
      | nil => rfl
      | cons c b ih => simp [encB] at ih ⊢; exact ih
    rw [this]
    simp only [byteCells]
    clear hlen hs hy this
    induction b with
    | nil => exact .nil
    | cons c b ih => exact .cons (.int _ _) ih

theorem Ev.drew {κ : Kap} {h : AHeap} {w : World} : Ev κ h w κ h w.drew := Ev.of_heap rfl rfl rfl rfl

theorem rep_zeroCells {zv : Array Value} {zs : List D} : True := trivial

/-- **append.** -/
theorem append_sound [Globs] (hi : Inv κ h w) {t tx ty e : TypeId} {sz by_ : Nat} {z : D} (ht : P.underlying t = some (.slice e)) (hs : sizeOfT P e = some sz) (hb : bytesOfT P e = some by_) (hz : zeroOfT P e = some z) (hzl : (cellsD z).length = sz) (hpos : 0 < sz)
    {s u : Value} {ds x : D} (rs : Rep κ w s ds) {ys : List (List D)} (hy : ∀ y ∈ ys, y.length = sz ∧ y.all cellOk = true) (hbpos : 0 < by_) {news : List Value} (hsrc : Src P sz tx u ys.length news w) (hrn : RepL κ w news ys.flatten)
    (hk : match ds with
       | .nilsl => (ys = [] → K .nilsl h) ∧ ys.length * by_ ≤ 140737488355328 ∧ (ys ≠ [] → ∀ id, h.f id = none → K (.row id (ys.length + 2) 0 ys.length) (h.set id (.row sz (ys.length + 2) ys false)))
       | .row r ver off len => match h.f r with
         | some (.row sz' ver' xs false) => ver = ver' ∧ sz' = sz ∧ off = 0 ∧ len = xs.length ∧ (xs.length + ys.length) * by_ ≤ 140737488355328 ∧
             K (.row r (ver + ys.length) 0 (len + ys.length)) (h.set r (.row sz (ver + ys.length) (xs ++ ys) false))
         | _ => False
       | _ => False) :
    ∃ v w' κ' h' d, (Builtin.append_ #[t, tx] ty #[s, u]).run P w = .ok v w' ∧ K d h' ∧ Rep κ' w' v d ∧ Inv κ' h' w' ∧ Ev κ h w κ' h' w' := by
  obtain ⟨i, i1, i2⟩ := sizeOf_info hs
  obtain ⟨zv, z1, z2, i', i3, i4⟩ := zero_cells hz κ w
  rw [i1] at i3
  cases i3
  have hby : i.bytes = by_ := by
    unfold bytesOfT at hb
    rw [i1] at hb
    simpa using hb
  subst i2
  have hzs : zv.cells.size = i.size := by
    have := z2.length
    simp at this
    omega
  have hnl : news.length = ys.length * i.size := hsrc.newsLen
  cases ds with
  | nilsl =>
    cases rs
    obtain ⟨k1, k2, k3⟩ := hk
    by_cases hnil : ys = []
    · subst hnil
      simp only [List.length_nil] at hsrc
      refine ⟨.slice none 0 0, w, κ, h, .nilsl, ?_, k1 rfl, .nilsl, hi, Ev.refl κ h w⟩
      have hcl : (Builtin.firstCells i.size 0 u).run P w = .ok news.toArray w := hsrc.cells
      rcases hsrc.kind with ⟨e', hk⟩ | hk <;> simp [Builtin.append_, run_underlying ht, run_underlying hk, sizeOf, typeInfo, i1, hsrc.len, hcl]
    · have hp : 0 < ys.length := List.length_pos_iff.2 hnil
      have hle : ys.length ≤ 140737488355328 := Nat.le_trans (Nat.le_mul_of_pos_right _ hbpos) k2
      have hrun := run_append_grow_src (P := P) w t tx ty e i zv ht i1 i4 none 0 0 [] (by rw [run_firstCells_none]) u ys.length news hsrc (by omega) (by omega) (by
        rw [hby, Nat.zero_add]
        exact growslice_fits (by omega) k2)
      simp only [Nat.zero_add, List.nil_append] at hrun
      have hcap := grownCap_ge w ys.length 0 e
      have hcapm := grownCap_le_maxLen w ys.length 0 e (by simp only [maxLen]; omega)
      simp only [maxLen] at hcapm
      have hi' : Inv κ h w.drew := hi.of_heap rfl
      have hrn' := hrn.mono (Le.of_heap (κ := κ) (w := w) (w' := w.drew) rfl)
      obtain ⟨κ', h', d, a1, a2, a3, a4⟩ := newRow_obj (K := K) hi' e (cs := news.toArray ++ Builtin.zeroCells zv.cells (grownCap w ys.length 0 e - ys.length)) (xs := ys) (sz := i.size) (cap := grownCap w ys.length 0 e)
        (fun y hh => (hy y hh).1) hcap hcapm (by
          simp only [Array.size_append, List.size_toArray, size_zeroCells, hnl, hzs]
          rw [← Nat.add_mul, Nat.add_sub_cancel' hcap]; exact Nat.le_refl _)
        (fun i1 x j d hx hj => by
          obtain ⟨v, g1, g2⟩ := hrn'.get _ d (flatten_get (fun y hh => (hy y hh).1) hx hj)
          refine ⟨v, ?_, g2⟩
          have hlt := (List.getElem?_eq_some_iff.1 g1).1
          rw [Array.getElem?_append_left (by simpa using hlt)]
          simpa using g1)
        (k3 hnil)
      exact ⟨_, _, κ', h', d, hrun, a1, a2, a3, Ev.drew.trans a4⟩
  | row r ver off len =>
    simp only at hk
    split at hk
    · rename_i sz' ver' xs ho
      obtain ⟨k1, k2, k3, k4, k5, k6⟩ := hk
      subst k1 k2 k3 k4
      cases rs with
      | row hl hv hn hcap ha =>
      rename_i cap p ad
      obtain ⟨p', hp, hr⟩ := hi.obj _ _ ho
      rw [hl] at hp
      cases hp
      obtain ⟨h1, h1', h2, h3, h4, h5, h5', h6, cs, el, h7, h8, h9⟩ := hr
      by_cases hnil : ys = []
      · subst hnil
        simp only [List.length_nil, Nat.add_zero, List.append_nil] at k6 hsrc
        have hself : h.set r (.row i.size ver xs false) = h := AHeap.ext fun q => by
          simp only [AHeap.set_f]
          split
          · rename_i hq; subst hq; exact ho.symm
          · rfl
        rw [hself] at k6
        refine ⟨.slice (some ad) xs.length cap, w, κ, h, _, ?_, k6, .row hl hv hn hcap ha, hi, Ev.refl κ h w⟩
        have hcl : (Builtin.firstCells i.size 0 u).run P w = .ok news.toArray w := hsrc.cells
        have hnn : news = [] := List.eq_nil_of_length_eq_zero (by simpa using hnl)
        subst hnn
        rcases hsrc.kind with ⟨e', hk⟩ | hk <;> simp [Builtin.append_, run_underlying ht, run_underlying hk, sizeOf, typeInfo, i1, hsrc.len, hcl, hcap, storeCells]
      · have hpl : 0 < ys.length := List.length_pos_iff.2 hnil
        have hle : xs.length + ys.length ≤ 140737488355328 := Nat.le_trans (Nat.le_mul_of_pos_right _ hbpos) k5
        have hsz' : ∀ y ∈ xs ++ ys, y.length = i.size := fun y hh => by
          rcases List.mem_append.1 hh with hh | hh
          · exact h6 y hh
          · exact (hy y hh).1
        by_cases hroom : xs.length + ys.length ≤ cap
        · -- there is room: in place
          rcases ha h1 with hc0 | ⟨had, hcc⟩
          · omega
          · simp only [Nat.zero_mul, Nat.add_zero, Nat.zero_add] at had hcc
            subst had
            have hroom2 : p.base + (xs.length + ys.length) * i.size ≤ cs.size := by
              have : (xs.length + ys.length) * i.size ≤ p.cap * i.size := Nat.mul_le_mul_right _ (by omega)
              omega
            rw [Nat.add_mul] at hroom2
            have hrun := run_append_room_row (P := P) (w := w) (ty := ty) ht i1 h7 hsrc hroom (off := p.base) (by omega)
            let cs' : Array Value := (cs.toList.take (p.base + xs.length * i.size) ++ news ++ cs.toList.drop (p.base + xs.length * i.size + news.length)).toArray
            have le : Le κ w κ (w.setRow p.blk cs') := setRow_le hi ⟨r, _, p, ho, rfl, hl, rfl⟩ cs'
            let p' : Place := { p with ver := ver + ys.length }
            have le' : Le κ w (κ.put r p') (w.setRow p.blk cs') := by
              refine ⟨fun b hb => ⟨hb, (le.imm b hb).2⟩, fun q pq hq => ?_⟩
              by_cases hqr : q = r
              · subst hqr
                rw [hl] at hq
                cases hq
                exact ⟨p', by simp [Kap.put], by simp [p', h1], fun e => absurd (by simpa [p', h1] using e) hnil, fun e => by omega⟩
              · exact ⟨pq, by simp [Kap.put, hqr, hq], Nat.le_refl _, fun _ => rfl, fun _ => rfl⟩
            have hobj : ObjRep (κ.put r p') (w.setRow p.blk cs') p' (.row i.size (ver + ys.length) (xs ++ ys) false) := by
              refine ⟨rfl, by omega, h2, fun e => (by cases e), fun _ => h4 rfl, by simp [p']; omega, h5', hsz', cs', el, setRow_heap w p.blk cs _ el (0, 0) h7, ?_, fun q x j d hx hj => ?_⟩
              · simp only [cs', p', List.size_toArray, List.length_append, List.length_take, List.length_drop, Array.length_toList]
                omega
              · have hlt : p.base + xs.length * i.size + news.length ≤ cs.toList.length := by simp; omega
                simp only [cs', List.getElem?_toArray]
                rw [takeDrop_get _ _ _ _ hlt]
                have hj' : j < i.size := by rw [← hsz' x (List.mem_of_getElem? hx)]; exact (List.getElem?_eq_some_iff.1 hj).1
                by_cases hq : q < xs.length
                · rw [List.getElem?_append_left hq] at hx
                  obtain ⟨v, g1, g2⟩ := h9 _ _ _ _ hx hj
                  have : q * i.size + i.size ≤ xs.length * i.size := by
                    calc q * i.size + i.size = (q + 1) * i.size := by rw [Nat.add_mul, Nat.one_mul]
                      _ ≤ xs.length * i.size := Nat.mul_le_mul_right _ hq
                  rw [if_neg (by simp only [p']; omega)]
                  exact ⟨v, by simpa using g1, g2.mono le'⟩
                · rw [List.getElem?_append_right (by omega)] at hx
                  obtain ⟨v, g1, g2⟩ := hrn.get _ d (flatten_get (fun y hh => (hy y hh).1) hx hj)
                  have hlt2 := (List.getElem?_eq_some_iff.1 g1).1
                  have hqq : q * i.size = xs.length * i.size + (q - xs.length) * i.size := by rw [← Nat.add_mul]; congr 1; omega
                  simp only [p']
                  rw [if_pos (by omega)]
                  refine ⟨v, ?_, g2.mono le'⟩
                  rw [← g1]
                  congr 1
                  omega
            obtain ⟨c1, c2⟩ := Inv.change (p' := p') hi ho hl rfl (o' := .row i.size (ver + ys.length) (xs ++ ys) false) rfl (w' := w.setRow p.blk cs') (by simp) (by have := hi.locLt r p hl; simpa [p'] using this) (.inl rfl) (by simp [p', h1]) (fun e => absurd (by simpa [p', h1] using e) hnil) (fun e => by omega) rfl rfl rfl (fun b _ hb => setRow_other w p.blk b _ hb) hobj
            refine ⟨_, _, _, _, _, hrun, k6, ?_, c1, c2⟩
            exact .row (p := p') (by simp [Kap.put]) (Nat.le_refl _) (by omega) hroom fun _ => .inr ⟨by simp [p'], by simp [p']; omega⟩
        · -- there is none: a new block
          have hi' : Inv κ h w.drew := hi.of_heap rfl
          have ledr : Le κ w κ w.drew := Le.of_heap rfl
          have hold : ∃ olds : List Value, (Builtin.firstCells i.size xs.length (.slice (some ad) xs.length cap)).run P w.drew = .ok olds.toArray w.drew ∧ RepL κ w olds xs.flatten := by
            rcases ha h1 with hc0 | ⟨had, hcc⟩
            · have hx0 : xs = [] := List.eq_nil_of_length_eq_zero (by omega)
              subst hx0
              exact ⟨[], by rw [run_firstCells_some w.drew i.size _ ad _ cap [] (by simp) (by simp)], .nil⟩
            · simp only [Nat.zero_mul, Nat.add_zero] at had
              subst had
              obtain ⟨olds, n1, n2, n3⟩ := cells_list (κ := κ) (w := w) (b := p.blk) (o := p.base) h6 hpos fun q y j d hq hj => by
                obtain ⟨v, g1, g2⟩ := h9 q y j d hq hj
                exact ⟨v, by rw [cell_of_row w _ _ cs el _ h7]; exact g1, g2⟩
              exact ⟨olds, run_firstCells_some w.drew i.size _ _ _ cap olds n2 (fun j v hv => by rw [add_off]; exact n3 j v hv), n1⟩
          obtain ⟨olds, o1, o2⟩ := hold
          have hol : olds.length = xs.length * i.size := by rw [o2.length, flatten_length h6]
          have hrun := run_append_grow_src (P := P) w t tx ty e i zv ht i1 i4 (some ad) xs.length cap olds o1 u ys.length news hsrc (by omega) (by omega) (by
            rw [hby]
            exact growslice_fits (by omega) k5)
          have hgc := grownCap_ge w (xs.length + ys.length) cap e
          have hgm := grownCap_le_maxLen w (xs.length + ys.length) cap e (by simp only [maxLen]; omega)
          simp only [maxLen] at hgm
          generalize grownCap w (xs.length + ys.length) cap e = gc at hrun hgc hgm
          have hrn' := (o2.append hrn).mono ledr
          rw [← List.flatten_append] at hrn'
          let cs' : Array Value := (olds ++ news).toArray ++ Builtin.zeroCells zv.cells (gc - (xs.length + ys.length))
          let p' : Place := ⟨w.heap.size, 0, ver + ys.length, gc, i.size⟩
          have le' : Le κ w (κ.put r p') (w.drew.alloc (.cells cs' e)) := by
            refine ⟨fun b hb => ⟨hb, heap_alloc_old w.drew _ (hi.immLt b hb)⟩, fun q pq hq => ?_⟩
            by_cases hqr : q = r
            · subst hqr
              rw [hl] at hq
              cases hq
              exact ⟨p', by simp [Kap.put], by simp [p', h1], fun e => absurd (by simpa [p', h1] using e) hnil, fun e => by omega⟩
            · exact ⟨pq, by simp [Kap.put, hqr, hq], Nat.le_refl _, fun _ => rfl, fun _ => rfl⟩
          have hrn2 := (o2.append hrn).mono le'
          rw [← List.flatten_append] at hrn2
          have hobj : ObjRep (κ.put r p') (w.drew.alloc (.cells cs' e)) p' (.row i.size (ver + ys.length) (xs ++ ys) false) := by
            refine ⟨rfl, by omega, rfl, fun e => (by cases e), fun _ hx => ?_, by simp [p']; exact hgc, hgm, hsz', cs', e, heap_alloc_self w.drew _, ?_, fun q x j d hx hj => ?_⟩
            · have := hi.immLt _ hx
              simp [p'] at this
            · simp only [cs', p', Array.size_append, List.size_toArray, List.length_append, size_zeroCells, hol, hnl, hzs]
              rw [← Nat.add_mul, ← Nat.add_mul, Nat.add_sub_cancel' hgc, Nat.zero_add]
              exact Nat.le_refl _
            · obtain ⟨v, g1, g2⟩ := hrn2.get _ d (flatten_get hsz' hx hj)
              refine ⟨v, ?_, g2⟩
              have hlt := (List.getElem?_eq_some_iff.1 g1).1
              simp only [p', cs', Nat.zero_add]
              rw [Array.getElem?_append_left (by simpa using hlt)]
              simpa using g1
          obtain ⟨c1, c2⟩ := Inv.change (p' := p') hi ho hl rfl (o' := .row i.size (ver + ys.length) (xs ++ ys) false) rfl (w' := w.drew.alloc (.cells cs' e)) (by simp) (by simp [p']) (.inr (Nat.le_refl _)) (by simp [p', h1]) (fun e => absurd (by simpa [p', h1] using e) hnil) (fun e => by omega) rfl rfl rfl
            (fun b hb _ => heap_alloc_old w.drew _ hb) hobj
          refine ⟨_, _, _, _, _, hrun, k6, ?_, c1, c2⟩
          exact .row (p := p') (by simp [Kap.put]) (Nat.le_refl _) (by omega) hgc fun _ => .inr ⟨by simp [p'], by simp [p']⟩
    · exact hk.elim
  | _ => exact hk.elim
end Go.Proofs.YthpgepillaeldaaDoor.Zz
