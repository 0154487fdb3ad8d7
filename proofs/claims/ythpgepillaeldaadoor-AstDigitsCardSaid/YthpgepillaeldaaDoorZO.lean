/- What is handed to others; calls; all instructions. -/
import Derived.Test.YthpgepillaeldaaDoorZN
set_option linter.unusedVariables false
set_option linter.unusedSimpArgs false
namespace Go.Proofs.YthpgepillaeldaaDoor.Zz
variable {P : Program} {κ : Kap} {h : AHeap} {w : World} {σ : Fr} {n : Nat} {a : Act} {K E : D → AHeap → Prop}

/-! ### Freezing -/
theorem frzId_f (h : AHeap) (r q : Nat) : (frzId h r).f q = if q = r then (match h.f r with | some (.row sz ver xs _) => some (.row sz ver xs true) | o => o) else h.f q := by
  unfold frzId
  by_cases e : q = r
  · subst e
    rw [if_pos rfl]
    split
    · rename_i sz ver xs fz ho
      simp [ho]
    · rename_i hno
      cases ho : h.f q with
      | none => rfl
      | some o =>
        cases o with
        | row sz ver xs fz => exact absurd ho (hno sz ver xs fz)
        | _ => rfl
  · rw [if_neg e]
    split
    · simp [e]
    · rfl

theorem frzId_sound [Globs] (hi : Inv κ h w) (r : Nat) : ∃ κ', Inv κ' (frzId h r) w ∧ Ev κ h w κ' (frzId h r) w := by
  cases ho : h.f r with
  | none => 
    have : frzId h r = h := by simp [frzId, ho]
    rw [this]; exact ⟨κ, hi, Ev.refl κ h w⟩
  | some o =>
    cases o with
    | row sz ver xs fz =>
      have e : frzId h r = h.set r (.row sz ver xs true) := by simp [frzId, ho]
      rw [e]
      cases fz with
      | true =>
        have : h.set r (.row sz ver xs true) = h := AHeap.ext fun q => by
          simp only [AHeap.set_f]
          split
          · rename_i hq; subst hq; exact ho.symm
          · rfl
        rw [this]
        exact ⟨κ, hi, Ev.refl κ h w⟩
      | false =>
        obtain ⟨κ', h1, h2, _⟩ := hi.freeze ho
        exact ⟨κ', h1, h2⟩
    | _ =>
      have : frzId h r = h := by simp [frzId, ho]
      rw [this]; exact ⟨κ, hi, Ev.refl κ h w⟩

def rowIds : D → List Nat
  | .row r _ _ _ => [r]
  | .agg ds => ds.flatMap fun d => match d with | .row r _ _ _ => [r] | _ => []
  | _ => []
theorem frz_eq (h : AHeap) (d : D) : frz h d = (rowIds d).foldl frzId h := by
  cases d with
  | row r ver off len => rfl
  | agg ds =>
    simp only [frz, rowIds]
    induction ds generalizing h with
    | nil => rfl
    | cons d ds ih =>
      simp only [List.foldl_cons, List.flatMap_cons, List.foldl_append]
      rw [ih]
      congr 1
      cases d <;> rfl
  | _ => rfl
theorem frzL_eq (h : AHeap) (ds : List D) : frzL h ds = (ds.flatMap rowIds).foldl frzId h := by
  unfold frzL
  induction ds generalizing h with
  | nil => rfl
  | cons d ds ih => simp only [List.foldl_cons, List.flatMap_cons, List.foldl_append, ih, frz_eq]

theorem frzs_sound [Globs] (hi : Inv κ h w) (rs : List Nat) : ∃ κ', Inv κ' (rs.foldl frzId h) w ∧ Ev κ h w κ' (rs.foldl frzId h) w := by
  induction rs generalizing κ h with
  | nil => exact ⟨κ, hi, Ev.refl κ h w⟩
  | cons r rs ih =>
    obtain ⟨κ1, h1, e1⟩ := frzId_sound hi r
    obtain ⟨κ2, h2, e2⟩ := ih h1
    exact ⟨κ2, h2, e1.trans e2⟩

/-- The rows are as they were, but that some do not change any more. -/
def SameRows (h h' : AHeap) : Prop := ∀ r, (∀ sz ver xs fz, h.f r = some (.row sz ver xs fz) → ∃ fz', h'.f r = some (.row sz ver xs fz') ∧ (fz = true → fz' = true)) ∧ ((∀ sz ver xs fz, h.f r ≠ some (.row sz ver xs fz)) → h'.f r = h.f r)
theorem SameRows.frzId (h : AHeap) (r : Nat) : SameRows h (frzId h r) := fun q => by
  rw [frzId_f]
  constructor
  · intro sz ver xs fz ho
    by_cases e : q = r
    · subst e; rw [if_pos rfl, ho]; exact ⟨true, rfl, fun _ => rfl⟩
    · rw [if_neg e]; exact ⟨fz, ho, id⟩
  · intro hno
    by_cases e : q = r
    · subst e
      rw [if_pos rfl]
      split
      · rename_i sz ver xs fz ho; exact absurd ho (hno _ _ _ _)
      · rfl
    · rw [if_neg e]
theorem SameRows.refl (h : AHeap) : SameRows h h := fun r => ⟨fun _ _ _ fz e => ⟨fz, e, id⟩, fun _ => rfl⟩
theorem SameRows.trans {h h1 h2 : AHeap} (a : SameRows h h1) (b : SameRows h1 h2) : SameRows h h2 := fun r => by
  constructor
  · intro sz ver xs fz e
    obtain ⟨fz1, e1, l1⟩ := (a r).1 sz ver xs fz e
    obtain ⟨fz2, e2, l2⟩ := (b r).1 sz ver xs fz1 e1
    exact ⟨fz2, e2, fun x => l2 (l1 x)⟩
  · intro hno
    have e1 := (a r).2 hno
    rw [← e1]
    exact (b r).2 (by rw [e1]; exact hno)
theorem SameRows.frzs (h : AHeap) (rs : List Nat) : SameRows h (rs.foldl Zz.frzId h) := by
  induction rs generalizing h with
  | nil => exact .refl h
  | cons r rs ih => exact (SameRows.frzId h r).trans (ih _)

/-- A row of the list is frozen. -/
theorem frzs_frozen (h : AHeap) (rs : List Nat) {r : Nat} (hr : r ∈ rs) {sz ver : Nat} {xs : List (List D)} {fz : Bool} (ho : h.f r = some (.row sz ver xs fz)) : (rs.foldl frzId h).f r = some (.row sz ver xs true) := by
  induction rs generalizing h fz with
  | nil => cases hr
  | cons q rs ih =>
    simp only [List.foldl_cons]
    by_cases e : r ∈ rs
    · obtain ⟨fz', e1, _⟩ := ((SameRows.frzId h q) r).1 sz ver xs fz ho
      exact ih _ e e1
    · have hq : r = q := by
        cases hr with
        | head => rfl
        | tail _ hh => exact absurd hh e
      subst hq
      have e1 : (frzId h r).f r = some (.row sz ver xs true) := by rw [frzId_f, if_pos rfl, ho]
      obtain ⟨fz', e2, l2⟩ := ((SameRows.frzs (frzId h r) rs) r).1 sz ver xs true e1
      rw [l2 rfl] at e2
      exact e2

/-- One cell of what is handed over. -/
def plainC (h : AHeap) : D → D
  | .nilsl => .sl []
  | .row r ver off len => match h.f r with
    | some (.row sz ver' xs fz) => if ver = ver' ∧ off + len ≤ xs.length then .sl ((xs.drop off).take len) else .undef
    | _ => .undef
  | d => d
theorem plain_agg (h : AHeap) (ds : List D) : plain h (.agg ds) = .agg (ds.map (plainC h)) := by
  simp only [plain]
  congr 1
theorem plain_eq (h : AHeap) (d : D) (hd : ∀ ds, d ≠ .agg ds) : plain h d = plainC h d := by
  cases d <;> first | rfl | exact absurd rfl (hd _)
theorem plainC_same {h h' : AHeap} (s : SameRows h h') (d : D) : plainC h' d = plainC h d := by
  cases d with
  | row r ver off len =>
    simp only [plainC]
    cases ho : h.f r with
    | none => rw [(s r).2 (by simp [ho]), ho]
    | some o =>
      cases o with
      | row sz ver' xs fz =>
        obtain ⟨fz', e, _⟩ := (s r).1 sz ver' xs fz ho
        rw [e]
      | _ => rw [(s r).2 (by simp [ho]), ho]
  | _ => rfl
theorem plain_same {h h' : AHeap} (s : SameRows h h') (d : D) : plain h' d = plain h d := by
  cases d with
  | agg ds => rw [plain_agg, plain_agg]; congr 1; exact List.map_congr_left fun d _ => plainC_same s d
  | _ => rw [plain_eq _ _ (by simp), plain_eq _ _ (by simp)]; exact plainC_same s _

theorem plainC_rep [Globs] (hi : Inv κ h w) {v : Value} {d : D} (r : Rep κ w v d) (hf : ∀ q ver off len sz ver' xs fz, d = .row q ver off len → h.f q = some (.row sz ver' xs fz) → fz = true) : Rep κ w v (plainC h d) := by
  cases d with
  | nilsl => cases r; exact .slnil fun _ => rfl
  | row q ver off len =>
    simp only [plainC]
    split
    · rename_i sz ver' xs fz ho
      split
      · rename_i hc
        obtain ⟨rfl, hle⟩ := hc
        have hfz := hf q ver off len sz ver xs fz rfl ho
        subst hfz
        cases r with
        | row hl hv hn hcap ha =>
        rename_i cap p ad
        obtain ⟨p', hp, hr⟩ := hi.obj _ _ ho
        rw [hl] at hp
        cases hp
        obtain ⟨h1, h1', h2, h3, h4, h5, h5', h6, cs, el, h7, h8, h9⟩ := hr
        have hlen : len = ((xs.drop off).take len).length := by simp; omega
        rcases ha h1 with hc0 | ⟨had, hcc⟩
        · have hl0 : len = 0 := by omega
          subst hl0
          have hnil : (xs.drop off).take 0 = [] := by simp
          rw [hnil]
          exact .slnil fun e => by cases e
        · subst had
          refine .sl_of (sz := sz) hlen (fun i j => cs.getD (p.base + off * p.sz + i * sz + j) undef) (by rw [← hlen]; exact hn) (by rw [← hlen]; exact hcap) (fun y hy => h6 y (List.mem_of_mem_drop (List.mem_of_mem_take hy))) (fun i y j d hy hd => ?_) (fun i y j d hy hd => ?_)
          · rw [List.getElem?_take] at hy
            split at hy
            · rw [List.getElem?_drop] at hy
              obtain ⟨v, g1, g2⟩ := h9 _ y j d hy hd
              refine ⟨h3 rfl, ?_⟩
              rw [cell_of_row w _ _ cs el _ h7, h2]
              have : p.base + off * sz + i * sz + j = p.base + (off + i) * sz + j := by rw [Nat.add_mul]; omega
              rw [this, g1]
              simp [Array.getD_eq_getD_getElem?, g1]
            · cases hy
          · rw [List.getElem?_take] at hy
            split at hy
            · rw [List.getElem?_drop] at hy
              obtain ⟨v, g1, g2⟩ := h9 _ y j d hy hd
              have : p.base + off * p.sz + i * sz + j = p.base + (off + i) * sz + j := by rw [h2, Nat.add_mul]; omega
              simp only [this, Array.getD_eq_getD_getElem?, g1]
              exact g2
            · cases hy
      · exact .undef _
    · exact .undef _
  | _ => exact r

theorem plain_rep [Globs] (hi : Inv κ h w) {v : Value} {d : D} (r : Rep κ w v d) (hf : ∀ q ∈ rowIds d, ∀ sz ver xs fz, h.f q = some (.row sz ver xs fz) → fz = true) : Rep κ w v (plain h d) := by
  cases d with
  | agg ds =>
    rw [plain_agg]
    cases r with
    | agg hs hr =>
    refine .agg (by simpa using hs) fun i d hd => ?_
    simp only [List.getElem?_map, Option.map_eq_some_iff] at hd
    obtain ⟨d0, h1, rfl⟩ := hd
    refine plainC_rep hi (hr i d0 h1) fun q ver off len sz ver' xs fz e ho => ?_
    subst e
    exact hf q (by simp only [rowIds, List.mem_flatMap]; exact ⟨_, List.mem_of_getElem? h1, by simp⟩) sz ver' xs fz ho
  | row q ver off len =>
    rw [plain_eq _ _ (by simp)]
    exact plainC_rep hi r fun q' _ _ _ sz ver' xs fz e ho => by cases e; exact hf q (by simp [rowIds]) sz ver' xs fz ho
  | _ =>
    rw [plain_eq _ _ (by simp)]
    exact plainC_rep hi r fun _ _ _ _ _ _ _ _ e _ => by cases e

/-- Arguments: what they are when they have been handed over. -/
theorem args_plain [Globs] (hi : Inv κ h w) {vs : List Value} {ds : List D} (r : RepL κ w vs ds) : ∃ κ', Inv κ' (frzL h ds) w ∧ Ev κ h w κ' (frzL h ds) w ∧ RepL κ' w vs (ds.map (plain h)) := by
  rw [frzL_eq]
  obtain ⟨κ', h1, e1⟩ := frzs_sound hi (ds.flatMap rowIds)
  refine ⟨κ', h1, e1, RepL.of_get (by simpa using r.length) fun i d hd => ?_⟩
  simp only [List.getElem?_map, Option.map_eq_some_iff] at hd
  obtain ⟨d0, h2, rfl⟩ := hd
  obtain ⟨v, g1, g2⟩ := r.get i d0 h2
  refine ⟨v, g1, ?_⟩
  have same := SameRows.frzs h (ds.flatMap rowIds)
  rw [← plain_same same]
  refine plain_rep h1 (g2.mono (e1.le hi)) fun q hq sz ver xs fz ho => ?_
  -- the row was one of the heap's own
  cases ho' : h.f q with
  | none => rw [(same q).2 (by simp [ho']), ho'] at ho; cases ho
  | some o =>
    cases o with
    | row sz' ver' xs' fz' =>
      have := frzs_frozen h (ds.flatMap rowIds) (List.mem_flatMap.2 ⟨d0, List.mem_of_getElem? h2, hq⟩) ho'
      rw [this] at ho
      cases ho
      rfl
    | _ => rw [(same q).2 (by simp [ho']), ho'] at ho; cases ho

/-! ### Calls -/
theorem callFunc_run {f : FuncId} {args : Array Value} (hc : callable P f = true) (w : World) : (callFunc f args).run P w = .ok (.enter f args) w := by
  unfold callable at hc
  split at hc
  · rename_i fn hfn
    simp only [Bool.and_eq_true, Bool.not_eq_true'] at hc
    obtain ⟨h1, h2⟩ := hc
    have h3 : fn.body.isNone = false := by
      cases hb : fn.body <;> simp [hb] at h2 ⊢
    simp only [callFunc, Sem.run_bind, run_program, Result.andThen, hfn]
    rw [if_neg (by rw [h1]; simp), if_neg (by rw [h3]; simp)]
    rfl
  · cases hc

theorem call_run {c : Call} {x : Operand} (hcal : c.callee = .value x) {f : FuncId} {v1 v2 : Array Value} (hx : a.eval x = .func (.func f) v1 v2) (hc : callable P f = true) (ty : TypeId) (w : World) :
    (do let d ← resolve a.eval c ty; invoke d.target d.args : Sem Next).run P w = .ok (.enter f (v1 ++ c.args.map a.eval ++ v2)) w := by
  simp only [Sem.run_bind, resolve, hcal, hx, Deferred.ofValue, Sem.run_pure, Result.andThen, invoke, callFunc_run hc]

theorem Calls.toA [Globs] {f : FuncId} {vs : Array Value} {args : List D} {R : AOut → AHeap → Prop} (hc : ACalls P f args h R) (hi : Inv κ h w) (r : RepL κ w vs.toList args) :
    Calls P f vs w fun e w' => ∃ o h' κ', R o h' ∧ OutRel κ' w' o e ∧ Inv κ' h' w' ∧ Ev κ h w κ' h' w' := hc.2 κ w vs hi r
end Go.Proofs.YthpgepillaeldaaDoor.Zz
