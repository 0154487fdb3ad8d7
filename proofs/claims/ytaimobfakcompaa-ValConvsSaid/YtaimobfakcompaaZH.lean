/- The instructions that reckon, on: equalities, fields, indexes, literals. -/
import Derived.Test.YtaimobfakcompaaZG
set_option linter.unusedVariables false
set_option linter.unusedSimpArgs false
namespace Go.Proofs.Ytaimobfakcompaa.Zz
variable {P : Program} {κ : Kap} {w : World}

def etT (P : Program) (t : TypeId) : ET → Prop
  | .bool => P.underlying t = some .bool
  | .ptr => ∃ e, P.underlying t = some (.pointer e)
  | .slnil => ∃ e, P.underlying t = some (.slice e)
  | .funcnil => ∃ a b c, P.underlying t = some (.func a b c)
  | .iface => ∃ ms, P.underlying t = some (.interface ms)
  | _ => False
theorem etOf_T {t : TypeId} {e : ET} (h : etOf P t = some e) : etT P t e := by
  unfold etOf at h
  split at h <;> simp at h <;> subst h <;> simp [etT, *]

theorem equal_run {t : TypeId} {u v : Value} {b : Bool} (h : ∀ d, (Op.equalIn (d + 1) t u v).run P w = .ok b w) (hb : ∀ op, binOp op t u v = match op with | .eql => (do pure (.bool (← Op.equal t u v))) | .neq => (do pure (.bool (!(← Op.equal t u v)))) | op => binOp op t u v)
    (neg : Bool) (p q : Operand) (hg : eqGuard (if neg then .neq else .eql) t p q u v = pure ()) :
    (do eqGuard (if neg then .neq else .eql) t p q u v; binOp (if neg then .neq else .eql) t u v).run P w = .ok (.bool (if neg then !b else b)) w := by
  have h' : (Op.equal t u v).run P w = .ok b w := h 9999
  rw [hg, pure_bind, hb]
  cases neg <;> simp [h']

theorem eqEv_sound {et : ET} {t : TypeId} (ht : etT P t et) {u v : Value} {x y : D} {b : Bool} (hu : Rep κ w u x) (hv : Rep κ w v y) (e : eqEv et x y = some b) (neg : Bool) (p q : Operand)
    (hc : et = .iface → isConstO p = true ∨ isConstO q = true) :
    (do eqGuard (if neg then .neq else .eql) t p q u v; binOp (if neg then .neq else .eql) t u v).run P w = .ok (.bool (if neg then !b else b)) w := by
  unfold eqEv at e
  split at e <;> cases e
  · -- bools
    cases hu; cases hv
    refine equal_run ?_ (fun op => by cases op <;> rfl) neg p q (eqGuard_prim ⟨fun _ => by simp, by simp⟩)
    simp only [etT] at ht
    intro d
    simp [Op.equalIn, run_underlying ht]
  · cases hu; cases hv
    obtain ⟨el, ht⟩ := ht
    refine equal_run ?_ (fun op => by cases op <;> rfl) neg p q (eqGuard_prim ⟨fun _ => by simp, by simp⟩)
    intro d
    simp [Op.equalIn, run_underlying ht]
  · cases hu; cases hv
    obtain ⟨el, ht⟩ := ht
    refine equal_run ?_ (fun op => by cases op <;> rfl) neg p q (eqGuard_prim ⟨fun _ => by simp, by simp⟩)
    intro d
    simp [Op.equalIn, run_underlying ht]
  · cases hu; cases hv
    obtain ⟨el, ht⟩ := ht
    refine equal_run ?_ (fun op => by cases op <;> rfl) neg p q (eqGuard_prim ⟨fun _ => by simp, by simp⟩)
    intro d
    simp [Op.equalIn, run_underlying ht]
  · cases hu; cases hv
    obtain ⟨el, ht⟩ := ht
    refine equal_run ?_ (fun op => by cases op <;> rfl) neg p q (eqGuard_prim ⟨fun _ => by simp, by simp⟩)
    intro d
    simp [Op.equalIn, run_underlying ht]
  · cases hu; cases hv
    obtain ⟨a1, a2, a3, ht⟩ := ht
    refine equal_run ?_ (fun op => by cases op <;> rfl) neg p q (eqGuard_prim ⟨fun _ => by simp, by simp⟩)
    intro d
    simp [Op.equalIn, run_underlying ht]
  · cases hu; cases hv
    obtain ⟨a1, a2, a3, ht⟩ := ht
    refine equal_run ?_ (fun op => by cases op <;> rfl) neg p q (eqGuard_prim ⟨fun _ => by simp, by simp⟩)
    intro d
    simp [Op.equalIn, run_underlying ht]
  · cases hu; cases hv
    obtain ⟨ms, ht⟩ := ht
    have hg : eqGuard (if neg then .neq else .eql) t p q .nilIface .nilIface = pure () := by
      rcases hc rfl with h | h
      · cases p <;> simp [isConstO] at h
        cases neg <;> simp [eqGuard_nil_constL]
      · cases q <;> simp [isConstO] at h
        cases neg <;> simp [eqGuard_nil_constR]
    refine equal_run (b := true) (fun d => ?_) (fun op => by cases op <;> rfl) neg p q hg
    simp [Op.equalIn, run_underlying ht]
  · cases hu; cases hv
    obtain ⟨ms, ht⟩ := ht
    refine equal_run ?_ (fun op => by cases op <;> rfl) neg p q (eqGuard_prim ⟨fun _ => by simp, by simp⟩)
    intro d
    simp [Op.equalIn, run_underlying ht]
  · cases hu; cases hv
    obtain ⟨ms, ht⟩ := ht
    refine equal_run (b := false) (fun d => ?_) (fun op => by cases op <;> rfl) neg p q (by cases neg <;> simp [eqGuard])
    simp [Op.equalIn, run_underlying ht]

/-! ### Literals -/
theorem setAt_length (cs : List D) (off : Nat) (ds : List D) : (setAt cs off ds).length = cs.length := by
  induction ds generalizing cs off with
  | nil => rfl
  | cons d ds ih => simp [setAt, ih]
theorem setAt_get (cs : List D) (off : Nat) (ds : List D) (i : Nat) : (setAt cs off ds)[i]? = if off ≤ i ∧ i < off + ds.length ∧ i < cs.length then ds[i - off]? else cs[i]? := by
  induction ds generalizing cs off with
  | nil =>
    simp only [setAt, List.length_nil]
    split
    · omega
    · rfl
  | cons d ds ih =>
    rw [setAt, ih]
    simp only [List.length_set, List.length_cons]
    by_cases h0 : i = off
    · subst h0
      by_cases hl : i < cs.length
      · have c1 : ¬ (i + 1 ≤ i ∧ i < i + 1 + ds.length ∧ i < cs.length) := by omega
        have c2 : i ≤ i ∧ i < i + (ds.length + 1) ∧ i < cs.length := by omega
        rw [if_neg c1, if_pos c2]
        simp [hl]
      · have c1 : ¬ (i + 1 ≤ i ∧ i < i + 1 + ds.length ∧ i < cs.length) := by omega
        have c2 : ¬ (i ≤ i ∧ i < i + (ds.length + 1) ∧ i < cs.length) := by omega
        rw [if_neg c1, if_neg c2]
        simp [hl]
    · have e1 : (cs.set off d)[i]? = cs[i]? := List.getElem?_set_ne (fun h => h0 h.symm)
      rw [e1]
      by_cases c : off + 1 ≤ i ∧ i < off + 1 + ds.length ∧ i < cs.length
      · have c2 : off ≤ i ∧ i < off + (ds.length + 1) ∧ i < cs.length := by omega
        rw [if_pos c, if_pos c2]
        rw [show i - off = (i - (off + 1)) + 1 by omega]
        simp
      · have c2 : ¬ (off ≤ i ∧ i < off + (ds.length + 1) ∧ i < cs.length) := by omega
        rw [if_neg c, if_neg c2]

/-- The model's own way of laying cells into cells. -/
theorem zipIdx_fold (vs : List Value) : ∀ (cs : Array Value) (off k : Nat), ((vs.zipIdx k).foldl (fun cs (c, j) => cs.setIfInBounds (off + j) c) cs).toList =
    (List.range cs.size).map fun i => if off + k ≤ i ∧ i < off + k + vs.length then vs.getD (i - (off + k)) undef else cs.getD i undef := by
  induction vs with
  | nil =>
    intro cs off k
    simp only [List.zipIdx_nil, List.foldl_nil, List.length_nil]
    apply List.ext_getElem
    · simp
    · intro i h1 h2
      simp at h1
      have : ¬ (off + k ≤ i ∧ i < off + k + 0) := by omega
      simp [h1]
      omega
  | cons v vs ih =>
    intro cs off k
    simp only [List.zipIdx_cons, List.foldl_cons]
    rw [ih]
    simp only [Array.size_setIfInBounds, List.length_cons]
    apply List.map_congr_left
    intro i hi
    simp at hi
    by_cases h0 : i = off + k
    · subst h0
      have c1 : ¬ (off + (k + 1) ≤ off + k ∧ off + k < off + (k + 1) + vs.length) := by omega
      have c2 : off + k ≤ off + k ∧ off + k < off + k + (vs.length + 1) := by omega
      rw [if_neg c1, if_pos c2]
      simp [hi]
    · have e1 : (cs.setIfInBounds (off + k) v).getD i undef = cs.getD i undef := by
        simp [Array.getD_eq_getD_getElem?, Array.getElem?_setIfInBounds_ne (fun h => h0 h.symm)]
      rw [e1]
      by_cases c : off + (k + 1) ≤ i ∧ i < off + (k + 1) + vs.length
      · have c2 : off + k ≤ i ∧ i < off + k + (vs.length + 1) := by omega
        rw [if_pos c, if_pos c2, show i - (off + k) = (i - (off + (k + 1))) + 1 by omega]
        simp
      · have c2 : ¬ (off + k ≤ i ∧ i < off + k + (vs.length + 1)) := by omega
        rw [if_neg c, if_neg c2]

theorem rep_set {cs : Array Value} {ds es : List D} {vs : Array Value} (h : RepL κ w cs.toList ds) (hv : RepL κ w vs.toList es) (off : Nat) :
    RepL κ w (vs.zipIdx.foldl (fun cs (c, j) => cs.setIfInBounds (off + j) c) cs).toList (setAt ds off es) := by
  have hz : vs.zipIdx.foldl (fun cs (c, j) => cs.setIfInBounds (off + j) c) cs = (vs.toList.zipIdx 0).foldl (fun cs (c, j) => cs.setIfInBounds (off + j) c) cs := by
    rw [← Array.foldl_toList]
    simp
  have hlen := h.length
  have hlen2 := hv.length
  simp at hlen hlen2
  rw [hz, zipIdx_fold]
  refine RepL.of_get (by simp [setAt_length, hlen]) fun i d hd => ?_
  rw [setAt_get] at hd
  have hi : i < ds.length := by
    split at hd
    · omega
    · exact (List.getElem?_eq_some_iff.1 hd).1
  have hi' : i < cs.size := by omega
  refine ⟨_, by simp [hi']; rfl, ?_⟩
  by_cases c : off ≤ i ∧ i < off + es.length ∧ i < ds.length
  · rw [if_pos c] at hd
    obtain ⟨v, e1, r⟩ := hv.get _ _ hd
    have e1' : vs[i - off]? = some v := by simpa using e1
    have c' : off ≤ i ∧ i < off + vs.size := by omega
    simp [c', e1', r]
  · rw [if_neg c] at hd
    obtain ⟨v, e1, r⟩ := h.get _ _ hd
    have e1' : cs[i] = v := by simpa [hi'] using e1
    have c' : ¬ (off ≤ i ∧ i < off + vs.size) := by omega
    simp [c', hi', e1', r]
end Go.Proofs.Ytaimobfakcompaa.Zz
