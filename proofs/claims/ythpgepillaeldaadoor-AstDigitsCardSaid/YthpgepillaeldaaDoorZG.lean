/- The instructions that reckon, on: slices, indexes, fields, equalities. -/
import Derived.Test.YthpgepillaeldaaDoorZF
import Derived.Laws.Slices
set_option linter.unusedVariables false
set_option linter.unusedSimpArgs false
namespace Go.Proofs.YthpgepillaeldaaDoor.Zz
variable {P : Program} {κ : Kap} {w : World}

/-- Optional operands. -/
inductive RepO (κ : Kap) (w : World) : Option Value → Option D → Prop
  | none : RepO κ w .none .none
  | some {v : Value} {d : D} (h : Rep κ w v d) : RepO κ w (.some v) (.some d)

theorem intOfD_rep {v : Value} {d : D} {i : Int} (r : Rep κ w v d) (e : intOfD d = some i) : ∃ k, v = .int k i := by
  unfold intOfD at e
  split at e
  · cases e; cases r; exact ⟨_, rfl⟩
  · cases e

theorem bounds_run {n cap : Nat} (hc : n ≤ cap) (isS : Bool) {lo hi : Option Value} {dlo dhi : Option D} (rl : RepO κ w lo dlo) (rh : RepO κ w hi dhi) {b : Nat × Nat} (e : bounds n dlo dhi = some b) :
    (Instr.sliceBounds isS n cap lo hi none).run P w = .ok (b.1, b.2, cap) w ∧ b.1 ≤ b.2 ∧ b.2 ≤ n := by
  unfold bounds at e
  split at e
  · rename_i l u h1 h2
    split at e
    · rename_i h3
      cases e
      obtain ⟨a1, a2, a3⟩ := h3
      have hu : ∀ k code, (Instr.sliceBound (.int k u) cap code).run P w = .ok u.toNat w := fun k code => run_sliceBound w k u cap code (by omega) (by omega)
      have hl : ∀ k code, (Instr.sliceBound (.int k l) u.toNat code).run P w = .ok l.toNat w := fun k code => run_sliceBound w k l u.toNat code (by omega) (by omega)
      refine ⟨?_, by simp; omega, by simp; omega⟩
      cases rl with
      | none =>
        simp at h1
        subst h1
        cases rh with
        | none =>
          simp at h2
          subst h2
          simp [Instr.sliceBounds]
        | some r =>
          obtain ⟨k, rfl⟩ := intOfD_rep r h2
          simp [Instr.sliceBounds, hu]
      | some r =>
        obtain ⟨k, rfl⟩ := intOfD_rep r h1
        cases rh with
        | none =>
          simp at h2
          subst h2
          have := hl k .sliceB
          simp at this
          simp [Instr.sliceBounds, this]
        | some r' =>
          obtain ⟨k', rfl⟩ := intOfD_rep r' h2
          simp [Instr.sliceBounds, hu, hl]
    · cases e
  · cases e

theorem mk_extract (s : List UInt8) (l u : Nat) : (⟨s.toArray⟩ : ByteArray).extract l u = ⟨((s.drop l).take (u - l)).toArray⟩ := by
  apply ByteArray.ext
  simp [List.extract_eq_take_drop]

theorem shape_slice {t e : TypeId} {sz : Nat} (ht : P.underlying t = some (.slice e)) (hs : sizeOfT P e = some sz) {lo hi : Option Value} {ba : Option Addr} {len cap l u : Nat} (hc : len ≤ cap)
    (hb : (Instr.sliceBounds true len cap lo hi none).run P w = .ok (l, u, cap) w) :
    (Instr.sliceAt t (.slice ba len cap) lo hi none).run P w = .ok (.slice (if cap = l then ba else ba.map (·.add (l * sz))) (u - l) (cap - l)) w := by
  simp [Instr.sliceAt, run_underlying ht, Instr.slice, hb, run_sizeOf hs]

theorem sliceEv_sound {k : SK} {t : TypeId} (hk : match k with
      | .str => P.underlying t = some .string
      | .sl sz => ∃ e, P.underlying t = some (.slice e) ∧ sizeOfT P e = some sz
      | .arr n => ∃ e, P.underlying t = some (.array n e) ∧ sizeOfT P e = some 1)
    {u : Value} {x d : D} {lo hi : Option Value} {dlo dhi : Option D} (hu : Rep κ w u x) (rl : RepO κ w lo dlo) (rh : RepO κ w hi dhi) (e : sliceEv k x dlo dhi none = some d) :
    ∃ v, (Instr.sliceAt t u lo hi none).run P w = .ok v w ∧ Rep κ w v d := by
  unfold sliceEv at e
  simp only at e
  split at e
  · -- a string
    rename_i s
    simp only [Option.map_eq_some_iff] at e
    obtain ⟨b, eb, rfl⟩ := e
    cases hu with
    | str _ hs =>
    obtain ⟨hb, h1, h2⟩ := bounds_run (P := P) (κ := κ) (w := w) (Nat.le_refl s.length) false rl rh eb
    refine ⟨.string ⟨((s.drop b.1).take (b.2 - b.1)).toArray⟩, ?_, .str _ (by simp; omega)⟩
    simp only at hk
    simp [Instr.sliceAt, run_underlying hk, Instr.slice, size_mk, hb, mk_extract]
  · -- plain elements
    rename_i sz xs
    obtain ⟨el, ht, hs⟩ := hk
    split at e
    · rename_i hall
      simp only [Option.map_eq_some_iff] at e
      obtain ⟨b, eb, rfl⟩ := e
      cases hu with
      | slnil hb0 =>
        rename_i ba cap
        obtain ⟨hb, h1, h2⟩ := bounds_run (P := P) (κ := κ) (w := w) (Nat.zero_le cap) true rl rh eb
        have hb1 : b.1 = 0 := by simp at h2; omega
        have hb2 : b.2 = 0 := by simpa using h2
        rw [hb1, hb2] at hb ⊢
        refine ⟨_, shape_slice ht hs (Nat.zero_le cap) hb, ?_⟩
        simp only [Nat.zero_mul, Nat.sub_zero, Nat.sub_self, List.drop_zero, List.take_zero]
        refine .slnil fun e => ?_
        split at e
        · exact hb0 e
        · simp at e; exact hb0 e
      | sl f hn hcap hsz' hc hr =>
        rename_i bb o sz' cap
        obtain ⟨hb, h1, h2⟩ := bounds_run (P := P) (κ := κ) (w := w) hcap true rl rh eb
        have hss := shape_slice (ba := some ⟨bb, o, none⟩) ht hs hcap hb
        have hlen : ((xs.drop b.1).take (b.2 - b.1)).length = b.2 - b.1 := by simp; omega
        by_cases hx : b.1 = b.2
        · have hnil : (xs.drop b.1).take (b.2 - b.1) = [] := by simp [hx]
          rw [hnil]
          refine ⟨_, hss, ?_⟩
          have e0 : b.2 - b.1 = ([] : List (List D)).length := by simp [hx]
          split
          · exact .sl_of (sz := 0) e0 (fun _ _ => undef) (by simp) (by simp) (by simp) (by simp) (by simp)
          · simp only [Option.map_some, add_off]
            exact .sl_of (sz := 0) e0 (fun _ _ => undef) (by simp) (by simp) (by simp) (by simp) (by simp)
        · have hcl : ¬ cap = b.1 := by omega
          rw [if_neg hcl] at hss
          simp only [Option.map_some, add_off] at hss
          have hne : xs ≠ [] := by intro h; subst h; simp at h2; omega
          obtain ⟨y, hy⟩ := List.exists_mem_of_ne_nil xs hne
          have hszz : sz' = sz := by rw [← hsz' y hy, hall y hy]
          subst hszz
          refine ⟨_, hss, ?_⟩
          refine .sl_of (sz := sz') (cap := cap - b.1) hlen.symm (fun i j => f (b.1 + i) j) (by rw [hlen]; omega) (by rw [hlen]; omega) (fun z hz => hall z (List.mem_of_mem_drop (List.mem_of_mem_take hz))) (fun i z j q hi hj => ?_) (fun i z j q hi hj => ?_)
          · rw [List.getElem?_take] at hi
            split at hi
            · rw [List.getElem?_drop] at hi
              have := hc _ z j q hi hj
              rw [show o + b.1 * sz' + i * sz' + j = o + (b.1 + i) * sz' + j by rw [Nat.add_mul]; omega]
              exact this
            · cases hi
          · rw [List.getElem?_take] at hi
            split at hi
            · rw [List.getElem?_drop] at hi
              exact hr _ z j q hi hj
            · cases hi
    · cases e
  · -- an array's cells
    rename_i n id ver off
    obtain ⟨el, ht, hs⟩ := hk
    split at e
    · rename_i hv1
      obtain ⟨hv1, hn⟩ := hv1
      simp only [Option.map_eq_some_iff] at e
      obtain ⟨b, eb, rfl⟩ := e
      cases hu with
      | ptr hl hv ha =>
        rename_i p ad
        subst hv1
        obtain ⟨hb, h1, h2⟩ := bounds_run (P := P) (κ := κ) (w := w) (Nat.le_refl n) false rl rh eb
        refine ⟨.slice (some (if n = b.1 then ad else ad.add (b.1 * 1))) (b.2 - b.1) (n - b.1), ?_, ?_⟩
        · simp [Instr.sliceAt, run_underlying ht, Instr.sureAddr, hb, run_sizeOf hs]
        · refine .csl hl hv (by omega) (by omega) fun ev => ?_
          split
          · exact .inl (by omega)
          · rw [ha ev, add_off]
            exact .inr (by simp [Nat.add_assoc])
    · cases e
  · cases e

theorem sliceRow_sound {sz r ver off len : Nat} {t el : TypeId} (ht : P.underlying t = some (.slice el)) (hs : sizeOfT P el = some sz) {u : Value} {lo hi : Option Value} {dlo dhi : Option D}
    (hu : Rep κ w u (.row r ver off len)) (rl : RepO κ w lo dlo) (rh : RepO κ w hi dhi) {b : Nat × Nat} (eb : bounds len dlo dhi = some b) (hsz : ∀ p, κ.loc r = some p → p.sz = sz) :
    ∃ v, (Instr.sliceAt t u lo hi none).run P w = .ok v w ∧ Rep κ w v (.row r ver (off + b.1) (b.2 - b.1)) := by
  cases hu with
  | row hl hv hn hcap ha =>
    rename_i cap p ad
    obtain ⟨hb, h1, h2⟩ := bounds_run (P := P) (κ := κ) (w := w) hcap true rl rh eb
    have hss := shape_slice (ba := some ad) ht hs hcap hb
    refine ⟨_, hss, ?_⟩
    split
    · rename_i hcl
      exact .row hl hv (by omega) (by omega) fun _ => .inl (by omega)
    · rename_i hcl
      simp only [Option.map_some]
      refine .row hl hv (by omega) (by omega) fun ev => ?_
      rcases ha ev with h0 | ⟨h0, h3⟩
      · exact .inl (by omega)
      · have := hsz p hl
        refine .inr ⟨?_, by omega⟩
        rw [h0, add_off, this, Nat.add_mul]
        simp [Nat.add_assoc]
end Go.Proofs.YthpgepillaeldaaDoor.Zz
