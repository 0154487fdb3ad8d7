/- The instructions that reckon, on: equalities, fields, indexes, literals. -/
import Derived.Test.YthpgepillaeldaaDoorZG
import Derived.ChangeKeysEq
import Derived.Laws.StructEq
set_option linter.unusedVariables false
set_option linter.unusedSimpArgs false
namespace Go.Proofs.YthpgepillaeldaaDoor.Zz
variable {P : Program} {κ : Kap} {w : World}

def etT (P : Program) (t : TypeId) : ET → Prop
  | .bool => P.underlying t = some .bool
  | .ptr => ∃ e, P.underlying t = some (.pointer e)
  | .slnil => ∃ e, P.underlying t = some (.slice e)
  | .funcnil => ∃ a b c, P.underlying t = some (.func a b c)
  | .iface => ∃ ms, P.underlying t = some (.interface ms)
  | .array n .prim => ∃ e k i, P.underlying t = some (.array n e) ∧ P.underlying e = some (.int k) ∧ P.eqGuardType P.depth t = false ∧ P.cellsOf e = 1 ∧ P.info? e = some i
  | _ => False
theorem etOf_T {t : TypeId} {e : ET} (h : etOf P t = some e) : etT P t e := by
  unfold etOf at h
  split at h
  case h_6 =>
    rename_i n e he
    split at h
    · rename_i k hk
      split at h
      · rename_i hc
        cases h
        obtain ⟨i, hi⟩ := Option.isSome_iff_exists.1 hc.2.2
        exact ⟨e, k, i, he, hk, hc.1, hc.2.1, hi⟩
      · cases h
    · cases h
  all_goals (simp at h; try subst h; try simp [etT, *])

theorem equal_run {t : TypeId} {u v : Value} {b : Bool} (h : ∀ d, (Op.equalIn (d + 1) t u v).run P w = .ok b w) (hb : ∀ op, binOp op t u v = match op with | .eql => (do pure (.bool (← Op.equal t u v))) | .neq => (do pure (.bool (!(← Op.equal t u v)))) | op => binOp op t u v)
    (neg : Bool) (p q : Operand) (hg : eqGuard (if neg then .neq else .eql) t p q u v = pure ()) :
    (do eqGuard (if neg then .neq else .eql) t p q u v; binOp (if neg then .neq else .eql) t u v).run P w = .ok (.bool (if neg then !b else b)) w := by
  have h' : (Op.equal t u v).run P w = .ok b w := h 9999
  rw [hg, pure_bind, hb]
  cases neg <;> simp [h']

theorem eqItems_run {e : TypeId} {k : IntKind} {c1 c2 : Array Value} (he : P.underlying e = some (.int k)) : ∀ (as bs : List D) (off : Nat) (is : List Nat) (b : Bool), is = (List.range as.length).map (· + off) → as.length = bs.length → off + as.length = c1.size → off + as.length = c2.size →
    (∀ (i : Nat) d, as[i]? = some d → Rep κ w (c1.getD (i + off) (.tuple #[])) d) → (∀ (i : Nat) d, bs[i]? = some d → Rep κ w (c2.getD (i + off) (.tuple #[])) d) → eqInts as bs = some b →
    ∀ d, (Op.eqItems (d + 1) e 1 c1 c2 is).run P w = .ok b w
  | [], [], off, is, b, hi, _, _, _, _, _, h => fun d => by
    cases h
    simp at hi
    subst hi
    simp [Op.eqItems]
  | x :: as, y :: bs, off, is, b, hi, hl, l1, l2, r1, r2, h => fun d => by
    have hx := r1 0 x rfl
    have hy := r2 0 y rfl
    simp only [Nat.zero_add] at hx hy
    have h0 : off < c1.size := by simp at l1; omega
    have h0' : off < c2.size := by simp at l2; omega
    have his : is = off :: (List.range as.length).map (· + (off + 1)) := by
      rw [hi, List.length_cons, List.range_succ_eq_map, List.map_cons, List.map_map]
      congr 1
      · omega
      · apply List.map_congr_left; intro i _; simp; omega
    rw [his]
    cases x with
    | int k1 a =>
      cases y with
      | int k2 c =>
        simp only [eqInts] at h
        split at h
        · rename_i hk
          subst hk
          have ga : c1[off]? = some (.int k1 a) := by
            rw [Array.getElem?_eq_getElem h0]
            have : c1.getD off (.tuple #[]) = c1[off] := by simp [Array.getD_eq_getD_getElem?, h0]
            rw [this] at hx
            generalize c1[off] = v at hx
            cases hx; rfl
          have gc : c2[off]? = some (.int k1 c) := by
            rw [Array.getElem?_eq_getElem h0']
            have : c2.getD off (.tuple #[]) = c2[off] := by simp [Array.getD_eq_getD_getElem?, h0']
            rw [this] at hy
            generalize c2[off] = v at hy
            cases hy; rfl
          have hp : P.plainKey e = true := by simp [Program.plainKey, he]
          have p1 := run_part_plain (P := P) w hp ga
          have p2 := run_part_plain (P := P) w hp gc
          simp only [Op.eqItems, Nat.mul_one, Sem.run_bind, p1, p2, Result.andThen_ok, run_equalIn_int w d e k1 k a c he]
          split at h
          · rename_i hac
            rw [hac]
            simp only [Bool.not_true, Bool.false_eq_true, if_false]
            exact eqItems_run he as bs (off + 1) _ b rfl (by simpa using hl) (by simp at l1; omega) (by simp at l2; omega)
              (fun i d hd => by have := r1 (i + 1) d hd; rwa [show i + 1 + off = i + (off + 1) by omega] at this)
              (fun i d hd => by have := r2 (i + 1) d hd; rwa [show i + 1 + off = i + (off + 1) by omega] at this) h d
          · rename_i hac
            cases h
            have : (a == c) = false := by simpa using hac
            rw [this]
            simp
        · cases h
      | _ => cases h
    | _ => cases h
  | [], _ :: _, _, _, _, _, hl, _, _, _, _, _ => by simp at hl
  | _ :: _, [], _, _, _, _, hl, _, _, _, _, _ => by simp at hl
theorem eqArr_sound {n : Nat} {t : TypeId} (ht : etT P t (.array n .prim)) {c1 c2 : Array Value} {a b : List D} {r : Bool} (hl : c1.size = n ∧ a.length = n) (hl2 : c2.size = n ∧ b.length = n) (r1 : ∀ (i : Nat) d, a[i]? = some d → Rep κ w (c1.getD i (.tuple #[])) d) (r2 : ∀ (i : Nat) d, b[i]? = some d → Rep κ w (c2.getD i (.tuple #[])) d)
    (e : eqInts a b = some r) (neg : Bool) (p q : Operand) :
    (do eqGuard (if neg then .neq else .eql) t p q (.agg c1) (.agg c2); binOp (if neg then .neq else .eql) t (.agg c1) (.agg c2)).run P w = .ok (.bool (if neg then !r else r)) w := by
  obtain ⟨el, k, i, h1, h2, h3, h4, h5⟩ := ht
  have hE : (Op.equalIn 10000 t (.agg c1) (.agg c2)).run P w = .ok r w := by
    rw [run_equalIn_array w 9999 c1 c2 h1 h5, h4]
    exact eqItems_run h2 a b 0 _ r (by rw [hl.2]; simp) (by omega) (by omega) (by omega) (fun i d hd => r1 i d hd) (fun i d hd => r2 i d hd) e 9998
  cases neg <;> simp only [Bool.false_eq_true, if_false, if_true, Sem.run_bind, run_eqGuard_agg w _ t p q c1 c2 h3, Result.andThen_ok, run_eql_struct, run_neq_struct, hE]
theorem eqEv_sound {et : ET} {t : TypeId} (ht : etT P t et) {u v : Value} {x y : D} {b : Bool} (hu : Rep κ w u x) (hv : Rep κ w v y) (e : eqEv et x y = some b) (neg : Bool) (p q : Operand)
    (hc : et = .iface → isConstO p = true ∨ isConstO q = true) :
    (do eqGuard (if neg then .neq else .eql) t p q u v; binOp (if neg then .neq else .eql) t u v).run P w = .ok (.bool (if neg then !b else b)) w := by
  unfold eqEv at e
  split at e
  case h_11 =>
    split at e
    · rename_i hl
      cases hu with
      | agg s1 r1 =>
        cases hv with
        | agg s2 r2 => exact eqArr_sound ht (by omega) (by omega) r1 r2 e neg p q
    · cases e
  all_goals cases e
  · -- bools
    cases hu; cases hv
    refine equal_run ?_ (fun op => by cases op <;> rfl) neg p q (eqGuard_prim ⟨fun _ => by simp, by simp⟩)
    simp only [etT] at ht
    intro d
    simp [Op.equalIn, run_underlying ht]
  · cases hu; cases hv
    obtain ⟨el, ht⟩ := ht
    refine equal_run ?_ (fun op => by cases op <;> rfl) neg p q (eqGuard_prim ⟨fun _ => by simp, by simp⟩)
    intro d
    simp [Op.equalIn, run_underlying ht]
  · cases hu; cases hv
    obtain ⟨el, ht⟩ := ht
    refine equal_run ?_ (fun op => by cases op <;> rfl) neg p q (eqGuard_prim ⟨fun _ => by simp, by simp⟩)
    intro d
    simp [Op.equalIn, run_underlying ht]
  · cases hu; cases hv
    obtain ⟨el, ht⟩ := ht
    refine equal_run ?_ (fun op => by cases op <;> rfl) neg p q (eqGuard_prim ⟨fun _ => by simp, by simp⟩)
    intro d
    simp [Op.equalIn, run_underlying ht]
  · cases hu; cases hv
    obtain ⟨el, ht⟩ := ht
    refine equal_run ?_ (fun op => by cases op <;> rfl) neg p q (eqGuard_prim ⟨fun _ => by simp, by simp⟩)
    intro d
    simp [Op.equalIn, run_underlying ht]
  · cases hu; cases hv
    obtain ⟨a1, a2, a3, ht⟩ := ht
    refine equal_run ?_ (fun op => by cases op <;> rfl) neg p q (eqGuard_prim ⟨fun _ => by simp, by simp⟩)
    intro d
    simp [Op.equalIn, run_underlying ht]
  · cases hu; cases hv
    obtain ⟨a1, a2, a3, ht⟩ := ht
    refine equal_run ?_ (fun op => by cases op <;> rfl) neg p q (eqGuard_prim ⟨fun _ => by simp, by simp⟩)
    intro d
    simp [Op.equalIn, run_underlying ht]
  · cases hu; cases hv
    obtain ⟨ms, ht⟩ := ht
    have hg : eqGuard (if neg then .neq else .eql) t p q .nilIface .nilIface = pure () := by
      rcases hc rfl with h | h
      · cases p <;> simp [isConstO] at h
        cases neg <;> simp [eqGuard_nil_constL]
      · cases q <;> simp [isConstO] at h
        cases neg <;> simp [eqGuard_nil_constR]
    refine equal_run (b := true) (fun d => ?_) (fun op => by cases op <;> rfl) neg p q hg
    simp [Op.equalIn, run_underlying ht]
  · cases hu; cases hv
    obtain ⟨ms, ht⟩ := ht
    refine equal_run ?_ (fun op => by cases op <;> rfl) neg p q (eqGuard_prim ⟨fun _ => by simp, by simp⟩)
    intro d
    simp [Op.equalIn, run_underlying ht]
  · cases hu; cases hv
    obtain ⟨ms, ht⟩ := ht
    refine equal_run (b := false) (fun d => ?_) (fun op => by cases op <;> rfl) neg p q (by cases neg <;> simp [eqGuard])
    simp [Op.equalIn, run_underlying ht]

/-! ### Literals -/
theorem setAt_length (cs : List D) (off : Nat) (ds : List D) : (setAt cs off ds).length = cs.length := by
  induction ds generalizing cs off with
  | nil => rfl
  | cons d ds ih => simp [setAt, ih]
theorem setAt_get (cs : List D) (off : Nat) (ds : List D) (i : Nat) : (setAt cs off ds)[i]? = if off ≤ i ∧ i < off + ds.length ∧ i < cs.length then ds[i - off]? else cs[i]? := by
  induction ds generalizing cs off with
  | nil =>
    simp only [setAt, List.length_nil]
    split
    · omega
    · rfl
  | cons d ds ih =>
    rw [setAt, ih]
    simp only [List.length_set, List.length_cons]
    by_cases h0 : i = off
    · subst h0
      by_cases hl : i < cs.length
      · have c1 : ¬ (i + 1 ≤ i ∧ i < i + 1 + ds.length ∧ i < cs.length) := by omega
        have c2 : i ≤ i ∧ i < i + (ds.length + 1) ∧ i < cs.length := by omega
        rw [if_neg c1, if_pos c2]
        simp [hl]
      · have c1 : ¬ (i + 1 ≤ i ∧ i < i + 1 + ds.length ∧ i < cs.length) := by omega
        have c2 : ¬ (i ≤ i ∧ i < i + (ds.length + 1) ∧ i < cs.length) := by omega
        rw [if_neg c1, if_neg c2]
        simp [hl]
    · have e1 : (cs.set off d)[i]? = cs[i]? := List.getElem?_set_ne (fun h => h0 h.symm)
      rw [e1]
      by_cases c : off + 1 ≤ i ∧ i < off + 1 + ds.length ∧ i < cs.length
      · have c2 : off ≤ i ∧ i < off + (ds.length + 1) ∧ i < cs.length := by omega
        rw [if_pos c, if_pos c2]
        rw [show i - off = (i - (off + 1)) + 1 by omega]
        simp
      · have c2 : ¬ (off ≤ i ∧ i < off + (ds.length + 1) ∧ i < cs.length) := by omega
        rw [if_neg c, if_neg c2]

/-- The model's own way of laying cells into cells. -/
theorem zipIdx_fold (vs : List Value) : ∀ (cs : Array Value) (off k : Nat), ((vs.zipIdx k).foldl (fun cs (c, j) => cs.setIfInBounds (off + j) c) cs).toList =
    (List.range cs.size).map fun i => if off + k ≤ i ∧ i < off + k + vs.length then vs.getD (i - (off + k)) undef else cs.getD i undef := by
  induction vs with
  | nil =>
    intro cs off k
    simp only [List.zipIdx_nil, List.foldl_nil, List.length_nil]
    apply List.ext_getElem
    · simp
    · intro i h1 h2
      simp at h1
      have : ¬ (off + k ≤ i ∧ i < off + k + 0) := by omega
      simp [h1]
      omega
  | cons v vs ih =>
    intro cs off k
    simp only [List.zipIdx_cons, List.foldl_cons]
    rw [ih]
    simp only [Array.size_setIfInBounds, List.length_cons]
    apply List.map_congr_left
    intro i hi
    simp at hi
    by_cases h0 : i = off + k
    · subst h0
      have c1 : ¬ (off + (k + 1) ≤ off + k ∧ off + k < off + (k + 1) + vs.length) := by omega
      have c2 : off + k ≤ off + k ∧ off + k < off + k + (vs.length + 1) := by omega
      rw [if_neg c1, if_pos c2]
      simp [hi]
    · have e1 : (cs.setIfInBounds (off + k) v).getD i undef = cs.getD i undef := by
        simp [Array.getD_eq_getD_getElem?, Array.getElem?_setIfInBounds_ne (fun h => h0 h.symm)]
      rw [e1]
      by_cases c : off + (k + 1) ≤ i ∧ i < off + (k + 1) + vs.length
      · have c2 : off + k ≤ i ∧ i < off + k + (vs.length + 1) := by omega
        rw [if_pos c, if_pos c2, show i - (off + k) = (i - (off + (k + 1))) + 1 by omega]
        simp
      · have c2 : ¬ (off + k ≤ i ∧ i < off + k + (vs.length + 1)) := by omega
        rw [if_neg c, if_neg c2]

theorem rep_set {cs : Array Value} {ds es : List D} {vs : Array Value} (h : RepL κ w cs.toList ds) (hv : RepL κ w vs.toList es) (off : Nat) :
    RepL κ w (vs.zipIdx.foldl (fun cs (c, j) => cs.setIfInBounds (off + j) c) cs).toList (setAt ds off es) := by
  have hz : vs.zipIdx.foldl (fun cs (c, j) => cs.setIfInBounds (off + j) c) cs = (vs.toList.zipIdx 0).foldl (fun cs (c, j) => cs.setIfInBounds (off + j) c) cs := by
    rw [← Array.foldl_toList]
    simp
  have hlen := h.length
  have hlen2 := hv.length
  simp at hlen hlen2
  rw [hz, zipIdx_fold]
  refine RepL.of_get (by simp [setAt_length, hlen]) fun i d hd => ?_
  rw [setAt_get] at hd
  have hi : i < ds.length := by
    split at hd
    · omega
    · exact (List.getElem?_eq_some_iff.1 hd).1
  have hi' : i < cs.size := by omega
  refine ⟨_, by simp [hi']; rfl, ?_⟩
  by_cases c : off ≤ i ∧ i < off + es.length ∧ i < ds.length
  · rw [if_pos c] at hd
    obtain ⟨v, e1, r⟩ := hv.get _ _ hd
    have e1' : vs[i - off]? = some v := by simpa using e1
    have c' : off ≤ i ∧ i < off + vs.size := by omega
    simp [c', e1', r]
  · rw [if_neg c] at hd
    obtain ⟨v, e1, r⟩ := h.get _ _ hd
    have e1' : cs[i] = v := by simpa [hi'] using e1
    have c' : ¬ (off ≤ i ∧ i < off + vs.size) := by omega
    simp [c', hi', e1', r]
end Go.Proofs.YthpgepillaeldaaDoor.Zz
