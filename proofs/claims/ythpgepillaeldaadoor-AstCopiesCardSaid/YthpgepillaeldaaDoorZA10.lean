/- The law of copies. -/
import Derived.Test.YthpgepillaeldaaDoorZA9
namespace Go.Proofs.YthpgepillaeldaaDoor.Zz
noncomputable section
set_option linter.unusedVariables false
set_option linter.unusedSimpArgs false
set_option maxRecDepth 20000
mutual
def Nd.wf : Nd → Prop
  | .mk k t s n l => (0 ≤ k ∧ k < 32) ∧ (0 ≤ t ∧ t < 4) ∧ s.length ≤ 64 ∧ (-9223372036854775808 ≤ n ∧ n ≤ 9223372036854775807) ∧ l.length ≤ 7 ∧ Nd.wfs l
def Nd.wfs : List Nd → Prop
  | [] => True
  | x :: l => Nd.wf x ∧ Nd.wfs l
end
theorem wf_mk {k t : Int} {s : List UInt8} {n : Int} {l : List Nd} : Nd.wf (.mk k t s n l) = ((0 ≤ k ∧ k < 32) ∧ (0 ≤ t ∧ t < 4) ∧ s.length ≤ 64 ∧ (-9223372036854775808 ≤ n ∧ n ≤ 9223372036854775807) ∧ l.length ≤ 7 ∧ Nd.wfs l) := by rw [Nd.wf]
theorem wfs_nil : Nd.wfs [] := by rw [Nd.wfs]; trivial
theorem wfs_cons {x : Nd} {l : List Nd} : Nd.wfs (x :: l) = (x.wf ∧ Nd.wfs l) := by rw [Nd.wfs]
theorem wfs_mem {l : List Nd} (h : Nd.wfs l) : ∀ x ∈ l, x.wf := by
  induction l with
  | nil => simp
  | cons y l ih =>
    rw [wfs_cons] at h
    intro x hx
    rcases List.mem_cons.1 hx with rfl | hx
    · exact h.1
    · exact ih h.2 x hx
theorem wfs_app {l r : List Nd} (h : Nd.wfs l) (h' : Nd.wfs r) : Nd.wfs (l ++ r) := by
  induction l with
  | nil => exact h'
  | cons y l ih =>
    rw [wfs_cons] at h
    rw [List.cons_append, wfs_cons]
    exact ⟨h.1, ih h.2⟩
theorem unLe_leB2 : ∀ (m n : Nat), n < 256 ^ m → unLe (leB n m) = n
  | 0, n, h => by simp at h; simp [leB, unLe, h]
  | m + 1, n, h => by
    have : n / 256 < 256 ^ m := by rw [Nat.pow_succ] at h; omega
    simp only [leB, unLe, unLe_leB2 m _ this]
    have e : (UInt8.ofNat n).toNat = n % 256 := by simp
    rw [e]; omega
theorem leB_inj {n n' m : Nat} (h : n < 256 ^ m) (h' : n' < 256 ^ m) (e : leB n m = leB n' m) : n = n' := by
  rw [← unLe_leB2 m n h, e, unLe_leB2 m n' h']
theorem uB_inj1 {k k' : Int} (h : 0 ≤ k ∧ k < 256) (h' : 0 ≤ k' ∧ k' < 256) (e : uB k 1 = uB k' 1) : k = k' := by
  have := leB_inj (m := 1) (by omega) (by omega) e
  omega
theorem uB_inj8 {k k' : Int} (h : -9223372036854775808 ≤ k ∧ k ≤ 9223372036854775807) (h' : -9223372036854775808 ≤ k' ∧ k' ≤ 9223372036854775807) (e : uB k 8 = uB k' 8) : k = k' := by
  have := leB_inj (m := 8) (by omega) (by omega) e
  omega
theorem encFs_inj : ∀ (l l' : List Nd), (∀ x ∈ l, ∀ y : Nd, y.wf → ∀ r1 r2, encF x ++ r1 = encF y ++ r2 → x = y ∧ r1 = r2) → l.length = l'.length → Nd.wfs l' → ∀ r1 r2, encFs l ++ r1 = encFs l' ++ r2 → l = l' ∧ r1 = r2
  | [], [], _, _, _, r1, r2, e => by
    rw [encFs_nil, List.nil_append] at e
    exact ⟨rfl, e⟩
  | x :: l, y :: l', hx, hl, hw, r1, r2, e => by
    rw [encFs_cons, encFs_cons, List.append_assoc, List.append_assoc] at e
    rw [wfs_cons] at hw
    obtain ⟨e1, e2⟩ := hx x (by simp) y hw.1 _ _ e
    obtain ⟨e3, e4⟩ := encFs_inj l l' (fun z hz => hx z (by simp [hz])) (by simpa using hl) hw.2 _ _ e2
    exact ⟨by rw [e1, e3], e4⟩
  | [], _ :: _, _, hl, _, _, _, _ => by simp at hl
  | _ :: _, [], _, hl, _, _, _, _ => by simp at hl
theorem encF_inj : ∀ x : Nd, x.wf → ∀ y : Nd, y.wf → ∀ r1 r2, encF x ++ r1 = encF y ++ r2 → x = y ∧ r1 = r2 := by
  intro x
  induction x using Nd.ind with
  | h x ih =>
    intro hx y hy r1 r2 e
    obtain ⟨k, t, s, n, l⟩ := x
    obtain ⟨k', t', s', n', l'⟩ := y
    rw [wf_mk] at hx hy
    rw [encF_mk, encF_mk] at e
    simp only [List.append_assoc] at e
    obtain ⟨e1, e⟩ := List.append_inj e (by simp [uB, len_leB])
    obtain ⟨e2, e⟩ := List.append_inj e (by simp [uB, len_leB])
    obtain ⟨e3, e⟩ := List.append_inj e (by simp [len_leB])
    have e3 := leB_inj (m := 4) (by omega) (by omega) e3
    obtain ⟨e4, e⟩ := List.append_inj e e3
    obtain ⟨e5, e⟩ := List.append_inj e (by simp [uB, len_leB])
    obtain ⟨e6, e⟩ := List.append_inj e (by simp [len_leB])
    have e6 := leB_inj (m := 1) (by omega) (by omega) e6
    obtain ⟨e7, e8⟩ := encFs_inj l l' (fun z hz w hw => ih z (cnt_kid hz) (wfs_mem hx.2.2.2.2.2 z hz) w hw) e6 hy.2.2.2.2.2 _ _ e
    have f1 := uB_inj1 (by omega) (by omega) e1
    have f2 := uB_inj1 (by omega) (by omega) e2
    have f5 := uB_inj8 hx.2.2.2.1 hy.2.2.2.1 e5
    subst f1 f2 e4 f5 e7
    exact ⟨rfl, e8⟩
theorem encF_len : ∀ x : Nd, x.wf → (encF x).length ≤ 79 * x.cnt := by
  intro x
  induction x using Nd.ind with
  | h x ih =>
    intro hx
    obtain ⟨k, t, s, n, l⟩ := x
    rw [wf_mk] at hx
    have hk : ∀ l : List Nd, (∀ y ∈ l, (encF y).length ≤ 79 * y.cnt) → (encFs l).length ≤ 79 * Nd.cnts l := by
      intro l
      induction l with
      | nil => intro _; rw [encFs_nil, cnts_nil]; exact Nat.le_refl _
      | cons y l ih =>
        intro h
        rw [encFs_cons, cnts_cons, List.length_append]
        have := h y (by simp)
        have := ih (fun z hz => h z (by simp [hz]))
        omega
    have := hk l (fun y hy => ih y (cnt_kid hy) (wfs_mem hx.2.2.2.2.2 y hy))
    rw [encF_mk, cnt_mk]
    simp only [List.length_append, uB, len_leB]
    omega
/-- Rows whose numbers fit. -/
def trOk (l : List Tr) : Prop := ∀ x ∈ l, -9223372036854775808 ≤ x.n ∧ x.n ≤ 9223372036854775807
theorem skip_wf : skipN.wf := by unfold skipN; rw [wf_mk]; exact ⟨by omega, by omega, by simp, by omega, by simp, wfs_nil⟩
theorem madeL_wf {g : List Tr → Nd × List Tr} {d : Nat} (hs : ∀ l, (g l).2 <:+ l) (hg : ∀ l, trOk l → (g l).1.wf) : ∀ (c : Nat) (l : List Tr) (acc : List Nd), trOk l → Nd.wfs acc → Nd.wfs (madeL g d c l acc).1 ∧ (madeL g d c l acc).1.length ≤ acc.length + c
  | 0, l, acc, hl, ha => ⟨ha, Nat.le_refl _⟩
  | c + 1, l, acc, hl, ha => by
    unfold madeL
    split
    · obtain ⟨a1, a2⟩ := madeL_wf hs hg c (g l).2 (acc ++ [(g l).1]) (fun x hx => hl x ((hs l).mem hx)) (wfs_app ha (by rw [wfs_cons]; exact ⟨hg l hl, wfs_nil⟩))
      refine ⟨a1, ?_⟩
      rw [List.length_append, List.length_singleton] at a2
      omega
    · exact ⟨ha, by simp only; omega⟩
theorem madeF_wf (f : Nat) : ∀ (l : List Tr) (d : Nat), trOk l → (madeF f l d).1.wf := by
  induction f with
  | zero => intro l d _; rw [madeF_zero]; exact skip_wf
  | succ f ih =>
    intro l d hl
    cases l with
    | nil => rw [madeF_nil]; exact skip_wf
    | cons x l =>
      rw [madeF_cons]
      have h5 := lowB_lt x.k 5
      have h2 := lowB_lt x.t 2
      have h3 := lowB_lt x.c 3
      obtain ⟨a1, a2⟩ := madeL_wf (d := d) (fun l => madeF_suf f l (d + 1)) (fun l hl => ih l (d + 1) hl) (lowB x.c 3) l [] (fun y hy => hl y (by simp [hy])) wfs_nil
      simp only [List.length_nil] at a2
      show Nd.wf (.mk _ _ _ _ _)
      rw [wf_mk]
      exact ⟨by omega, by omega, by simp [List.length_take]; omega, hl x (by simp), by omega, a1⟩
theorem madeL_cnt {g : List Tr → Nd × List Tr} {d F : Nat} (hs : ∀ l, (g l).2 <:+ l) (hg : ∀ l, l ≠ [] → l.length ≤ F → (g l).1.cnt + (g l).2.length ≤ l.length) : ∀ (c : Nat) (l : List Tr) (acc : List Nd), l.length ≤ F → Nd.cnts (madeL g d c l acc).1 + (madeL g d c l acc).2.length ≤ Nd.cnts acc + l.length
  | 0, l, acc, hl => Nat.le_refl _
  | c + 1, l, acc, hl => by
    unfold madeL
    split
    · rename_i q
      have := (hs l).length_le
      have a := madeL_cnt (d := d) hs hg c (g l).2 (acc ++ [(g l).1]) (by omega)
      have b := hg l q.1 hl
      rw [cnts_app, cnts_cons, cnts_nil] at a
      omega
    · exact Nat.le_refl _
theorem madeF_cnt (f : Nat) : ∀ (l : List Tr) (d : Nat), l ≠ [] → l.length ≤ f → (madeF f l d).1.cnt + (madeF f l d).2.length ≤ l.length := by
  induction f with
  | zero => intro l d h0 hl; exact absurd (List.length_eq_zero_iff.1 (by omega)) h0
  | succ f ih =>
    intro l d h0 hl
    cases l with
    | nil => exact absurd rfl h0
    | cons x l =>
      rw [madeF_cons]
      have := madeL_cnt (d := d) (F := f) (fun l => madeF_suf f l (d + 1)) (fun l a b => ih l (d + 1) a b) (lowB x.c 3) l [] (by simpa using hl)
      rw [cnts_nil] at this
      simp only [cnt_mk, List.length_cons]
      omega
theorem madeTop_wf {l : List Tr} (h : trOk l) : (madeTop l).wf := madeF_wf 301 _ 0 fun x hx => h x (List.mem_of_mem_take hx)
theorem madeTop_cnt (l : List Tr) : (madeTop l).cnt ≤ 300 := by
  unfold madeTop
  have h3 : (l.take 300).length ≤ 300 := by rw [List.length_take]; omega
  by_cases h0 : l.take 300 = []
  · rw [h0, madeF_nil]
    show skipN.cnt ≤ 300
    unfold skipN
    rw [cnt_mk, cnts_nil]; omega
  · have := madeF_cnt 301 (l.take 300) 0 h0 (by omega)
    omega
end
end Go.Proofs.YthpgepillaeldaaDoor.Zz
