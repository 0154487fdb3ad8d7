/- The instructions that reckon: all of them. -/
import Derived.Test.YthpgepillaeldaaDoorZH
set_option linter.unusedVariables false
set_option linter.unusedSimpArgs false
namespace Go.Proofs.YthpgepillaeldaaDoor.Zz
variable {P : Program} {κ : Kap} {w : World} {σ : Fr} {n : Nat} {a : Act}

theorem opdO_rep [Globs] (hp : Pre κ w σ n a) {x : Option Operand} {y : Option Opd} (e : opdO x = some y) : RepO κ w (x.map a.eval) (y.map σ.ev) := by
  cases x with
  | none => simp [opdO] at e; subst e; exact .none
  | some x =>
    simp only [opdO, Option.map_eq_some_iff] at e
    obtain ⟨z, e1, rfl⟩ := e
    exact .some (opd_rep hp e1)

/-! ### Structs and arrays written out -/
theorem fill_sound {place : Nat → Option (Nat × Nat)} {cells : Array Value} {zs : List D} (hz : RepL κ w cells.toList zs) :
    ∀ (ps : List (Nat × Value)) (qs : List (Nat × Nat × D)), ps.length = qs.length →
      (∀ (i : Nat) (j : Nat) (v : Value), ps[i]? = some (j, v) → ∃ (off sz : Nat) (d : D), qs[i]? = some (off, sz, d) ∧ place j = some (off, sz) ∧ Rep κ w v d) →
      ∀ ds, buildD zs qs = some ds → ∃ cs, Instr.fill place cells ps = some cs ∧ RepL κ w cs.toList ds := by
  intro ps
  induction ps generalizing cells zs with
  | nil =>
    intro qs hl _ ds e
    cases qs with
    | nil => simp [buildD] at e; subst e; exact ⟨cells, by simp [Instr.fill], hz⟩
    | cons _ _ => simp at hl
  | cons p ps ih =>
    intro qs hl hh ds e
    cases qs with
    | nil => simp at hl
    | cons q qs =>
      obtain ⟨j, v⟩ := p
      obtain ⟨off, sz, d, e1, e2, r⟩ := hh 0 j v (by simp)
      simp at e1
      subst e1
      simp only [buildD] at e
      split at e
      · rename_i hc
        obtain ⟨c1, c2, c3⟩ := hc
        have hnu : d ≠ .undef := by
          intro h; subst h; simp [cellsD, cellOk] at c3
        have rc := rep_cells r hnu
        have l1 := rc.length
        have l2 := hz.length
        simp at l1 l2
        obtain ⟨cs, f1, f2⟩ := ih (rep_set hz rc off) qs (by simpa using hl) (fun i j v h => by
          have := hh (i + 1) j v (by simpa using h)
          simpa using this) ds e
        refine ⟨cs, ?_, f2⟩
        rw [Instr.fill, e2]
        simp only
        rw [if_neg (by simp; omega)]
        exact f1
      · cases e

theorem partsOf_spec [Globs] {fs : Array Field} (hp : Pre κ w σ n a) : ∀ (ps : List (Nat × Operand)) (qs : List (Nat × Nat × Opd)), partsOf P fs ps = some qs →
    ps.length = qs.length ∧ ∀ (i : Nat) (j : Nat) (x : Operand), ps[i]? = some (j, x) → ∃ f y m, fs[j]? = some f ∧ sizeOfT P f.type = some m ∧ qs[i]? = some (f.offset, m, y) ∧ Rep κ w (a.eval x) (σ.ev y)
  | [], qs, e => by simp [partsOf] at e; subst e; exact ⟨rfl, fun i j x h => by simp at h⟩
  | (j0, x0) :: ps, qs, e => by
    simp only [partsOf] at e
    split at e
    · rename_i f y qs' e1 e2 e3
      simp only [Option.map_eq_some_iff] at e
      obtain ⟨m, e4, rfl⟩ := e
      obtain ⟨h1, h2⟩ := partsOf_spec hp ps qs' e3
      refine ⟨by simp [h1], fun i j x h => ?_⟩
      cases i with
      | zero =>
        simp at h
        obtain ⟨rfl, rfl⟩ := h
        exact ⟨f, y, m, e1, e4, by simp, opd_rep hp e2⟩
      | succ i => simpa using h2 i j x (by simpa using h)
    · cases e
theorem partsOfA_spec [Globs] {sz : Nat} (hp : Pre κ w σ n a) : ∀ (ps : List (Nat × Operand)) (qs : List (Nat × Nat × Opd)), partsOfA sz ps = some qs →
    ps.length = qs.length ∧ ∀ (i : Nat) (j : Nat) (x : Operand), ps[i]? = some (j, x) → ∃ y, qs[i]? = some (j * sz, sz, y) ∧ Rep κ w (a.eval x) (σ.ev y)
  | [], qs, e => by simp [partsOfA] at e; subst e; exact ⟨rfl, fun i j x h => by simp at h⟩
  | (j0, x0) :: ps, qs, e => by
    simp only [partsOfA] at e
    split at e
    · rename_i y qs' e2 e3
      cases e
      obtain ⟨h1, h2⟩ := partsOfA_spec hp ps qs' e3
      refine ⟨by simp [h1], fun i j x h => ?_⟩
      cases i with
      | zero =>
        simp at h
        obtain ⟨rfl, rfl⟩ := h
        exact ⟨y, by simp, opd_rep hp e2⟩
      | succ i => simpa using h2 i j x (by simpa using h)
    · cases e
theorem partsOfS_spec [Globs] (hp : Pre κ w σ n a) : ∀ (ps : List (Nat × Operand)) (qs : List (Nat × Opd)), partsOfS ps = some qs →
    ps.length = qs.length ∧ ∀ (i : Nat) (j : Nat) (x : Operand), ps[i]? = some (j, x) → ∃ y, qs[i]? = some (j, y) ∧ Rep κ w (a.eval x) (σ.ev y)
  | [], qs, e => by simp [partsOfS] at e; subst e; exact ⟨rfl, fun i j x h => by simp at h⟩
  | (j0, x0) :: ps, qs, e => by
    simp only [partsOfS] at e
    split at e
    · rename_i y qs' e2 e3
      cases e
      obtain ⟨h1, h2⟩ := partsOfS_spec hp ps qs' e3
      refine ⟨by simp [h1], fun i j x h => ?_⟩
      cases i with
      | zero =>
        simp at h
        obtain ⟨rfl, rfl⟩ := h
        exact ⟨y, by simp, opd_rep hp e2⟩
      | succ i => simpa using h2 i j x (by simpa using h)
    · cases e

theorem zero_cells {t : TypeId} {z : D} (e : zeroOfT P t = some z) (κ : Kap) (w : World) : ∃ v, (zeroValue t).run P w = .ok v w ∧ RepL κ w v.cells.toList (cellsD z) ∧ ∃ i, P.info? t = some i ∧ i.zero = some v := by
  obtain ⟨v, h1, h2, i, h3, h4⟩ := run_zeroValue e κ w
  refine ⟨v, h1, ?_, i, h3, h4⟩
  have e' := e
  unfold zeroOfT at e'
  simp only [h3, Option.bind_some, h4] at e'
  by_cases hu : z = .undef
  · exfalso
    subst hu
    unfold absV at e'
    split at e'
    · rename_i cs0
      cases hl : absL cs0.toList <;> simp [hl] at e'
    · unfold absC at e'
      split at e' <;> first | (simp at e'; done) | (split at e' <;> simp at e')
  · exact rep_cells h2 hu

theorem run_mapM_places {fs : Array Field} (hs : ∀ f ∈ fs.toList, ∃ m, sizeOfT P f.type = some m) (w : World) :
    ∃ pl : Array (Nat × Nat), (fs.mapM fun (f : Field) => (do pure (f.offset, ← sizeOf f.type) : Sem (Nat × Nat))).run P w = .ok pl w ∧ ∀ (j : Nat) (f : Field) (m : Nat), fs[j]? = some f → sizeOfT P f.type = some m → pl[j]? = some (f.offset, m) := by
  have key : ∀ l : List Field, (∀ f ∈ l, ∃ m, sizeOfT P f.type = some m) → ∃ pl : List (Nat × Nat), (l.mapM fun (f : Field) => (do pure (f.offset, ← sizeOf f.type) : Sem (Nat × Nat))).run P w = .ok pl w ∧ ∀ (j : Nat) (f : Field) (m : Nat), l[j]? = some f → sizeOfT P f.type = some m → pl[j]? = some (f.offset, m) := by
    intro l
    induction l with
    | nil => intro _; exact ⟨[], by simp, fun j f m h => by simp at h⟩
    | cons f l ih =>
      intro h
      obtain ⟨m, hm⟩ := h f (by simp)
      obtain ⟨pl, h1, h2⟩ := ih fun g hg => h g (by simp [hg])
      refine ⟨(f.offset, m) :: pl, ?_, fun j g k hj hk => ?_⟩
      · rw [List.mapM_cons]; simp only [Sem.run_bind, run_sizeOf hm, Result.andThen, Sem.run_pure, h1]
      · cases j with
        | zero => simp at hj; subst hj; rw [hm] at hk; cases hk; simp
        | succ j => simpa using h2 j g k (by simpa using hj) hk
  obtain ⟨pl, h1, h2⟩ := key fs.toList hs
  refine ⟨pl.toArray, ?_, fun j f m hj hk => by simpa using h2 j f m (by simpa using hj) hk⟩
  rw [Array.mapM_eq_mapM_toList]
  simp only [Sem.run_map, h1, Result.andThen]

theorem getFields {fs : Array Field} {P : Program} (h : fs.toList.all (fun f => (sizeOfT P f.type).isSome) = true) : ∀ f ∈ fs.toList, ∃ m, sizeOfT P f.type = some m := by
  intro f hf
  have := List.all_eq_true.1 h f hf
  exact Option.isSome_iff_exists.1 this

theorem arr_get {cs : Array Value} {ds : List D} (h : RepL κ w cs.toList ds) (i : Nat) (d : D) (e : ds[i]? = some d) : ∃ v, cs[i]? = some v ∧ Rep κ w v d := by
  obtain ⟨v, e1, r⟩ := h.get i d e
  exact ⟨v, by simpa using e1, r⟩

theorem fieldPlace_run {f : Field} {m : Nat} (hm : sizeOfT P f.type = some m) (h0 : m ≠ 0) (ad : Addr) (w : World) : (fieldPlace ad f).run P w = .ok (ad.add f.offset) w := by
  simp [fieldPlace, run_sizeOf hm, h0]

theorem opds_length [Globs] {l : List Operand} {ys : List Opd} (e : opds l = some ys) : l.length = ys.length := by
  induction l generalizing ys with
  | nil => simp [opds] at e; subst e; rfl
  | cons x l ih =>
    simp only [opds, List.mapM_cons, Option.bind_eq_bind, Option.bind_eq_some_iff] at e
    obtain ⟨y, e1, ys', e2, e3⟩ := e
    cases e3
    simp [ih e2]
theorem opds_two [Globs] (hp : Pre κ w σ n a) {arr : Array Operand} {x y : Opd} (e : opds arr.toList = some [x, y]) :
    ∃ v u, arr.map a.eval = #[v, u] ∧ Rep κ w v (σ.ev x) ∧ Rep κ w u (σ.ev y) := by
  have hl := opds_length e
  have r := opds_rep hp e
  match h : arr.toList, hl with
  | [p, q], _ =>
    rw [h] at r
    cases r with
    | cons r1 t => cases t with
      | cons r2 t => exact ⟨_, _, by apply Array.ext'; simp [h], r1, r2⟩
theorem opds_one [Globs] (hp : Pre κ w σ n a) {arr : Array Operand} {x : Opd} (e : opds arr.toList = some [x]) :
    ∃ v, arr.map a.eval = #[v] ∧ Rep κ w v (σ.ev x) := by
  have hl := opds_length e
  have r := opds_rep hp e
  match h : arr.toList, hl with
  | [p], _ =>
    rw [h] at r
    cases r with
    | cons r1 t => exact ⟨_, by apply Array.ext'; simp [h], r1⟩

/-- **The instructions that reckon.** -/
theorem pure_sound [Globs] {r q : Bool} {o : Oper} {i : Ins Opd} (hc : compI P r q o = some i) (hp : Pre κ w σ n a) {d : D} (he : pureEv (i.map σ.ev) = some d) : Val P κ w (execOp a.eval o) d := by
  unfold compI at hc
  unfold execOp
  split at hc
  · -- move
    rename_i x hop
    simp only [Option.map_eq_some_iff] at hc
    obtain ⟨y, e1, rfl⟩ := hc
    simp only [Ins.map, pureEv, Option.some.injEq] at he
    subst he
    exact ⟨a.eval x, by simp [hop], opd_rep hp e1⟩
  · rename_i x hop
    simp only [Option.map_eq_some_iff] at hc
    obtain ⟨y, e1, rfl⟩ := hc
    simp only [Ins.map, pureEv, Option.some.injEq] at he
    subst he
    exact ⟨a.eval x, by simp [hop], opd_rep hp e1⟩
  · -- pick
    split at hc
    · cases hc; simp [Ins.map, pureEv] at he
    · cases hc
  · simp only [Option.map_eq_some_iff] at hc; obtain ⟨y, e1, rfl⟩ := hc; simp [Ins.map, pureEv] at he
  · simp only [Option.map_eq_some_iff] at hc; obtain ⟨y, e1, rfl⟩ := hc; simp [Ins.map, pureEv] at he
  · -- build
    rename_i t ps hop
    split at hc
    · rename_i fs z ht hz
      split at hc
      · rename_i hall
        simp only [Option.map_eq_some_iff] at hc
        obtain ⟨qs, e1, rfl⟩ := hc
        simp only [Ins.map, pureEv, Option.map_eq_some_iff] at he
        obtain ⟨ds, e2, rfl⟩ := he
        obtain ⟨zv, z1, z2, _⟩ := zero_cells hz κ w
        obtain ⟨pl, p1, p2⟩ := run_mapM_places (getFields hall) w
        obtain ⟨h1, h2⟩ := partsOf_spec hp _ _ e1
        obtain ⟨cs, f1, f2⟩ := fill_sound (place := (pl[·]?)) z2 (ps.toList.map fun p => (p.1, a.eval p.2)) (qs.map fun p => (p.1, p.2.1, σ.ev p.2.2)) (by simpa using h1) (fun i j v h => by
          simp only [List.getElem?_map, Option.map_eq_some_iff] at h
          obtain ⟨⟨j', x⟩, h3, h4⟩ := h
          cases h4
          obtain ⟨f, y, m, g1, g2, g3, g4⟩ := h2 i _ x h3
          exact ⟨f.offset, m, σ.ev y, by simp [g3], p2 _ f m g1 g2, g4⟩) ds e2
        refine ⟨.agg cs, ?_, f2.agg⟩
        simp only [hop]
        have hps : (Array.map (fun (x : Nat × Operand) => (x.1, a.eval x.2)) ps).toList = ps.toList.map fun p => (p.1, a.eval p.2) := by simp
        simp only [Sem.run_bind, Instr.build, z1, Result.andThen, run_underlying ht, p1, hps, f1, Sem.run_pure]
      · cases hc
    · rename_i ln el z ht hz
      split at hc
      · rename_i sz hsz
        simp only [Option.map_eq_some_iff] at hc
        obtain ⟨qs, e1, rfl⟩ := hc
        simp only [Ins.map, pureEv, Option.map_eq_some_iff] at he
        obtain ⟨ds, e2, rfl⟩ := he
        obtain ⟨zv, z1, z2, _⟩ := zero_cells hz κ w
        obtain ⟨h1, h2⟩ := partsOfA_spec hp _ _ e1
        obtain ⟨cs, f1, f2⟩ := fill_sound (place := fun i => some (i * sz, sz)) z2 (ps.toList.map fun p => (p.1, a.eval p.2)) (qs.map fun p => (p.1, p.2.1, σ.ev p.2.2)) (by simpa using h1) (fun i j v h => by
          simp only [List.getElem?_map, Option.map_eq_some_iff] at h
          obtain ⟨⟨j', x⟩, h3, h4⟩ := h
          cases h4
          obtain ⟨y, g3, g4⟩ := h2 i _ x h3
          exact ⟨_, sz, σ.ev y, by simp [g3], rfl, g4⟩) ds e2
        refine ⟨.agg cs, ?_, f2.agg⟩
        simp only [hop]
        have hps : (Array.map (fun (x : Nat × Operand) => (x.1, a.eval x.2)) ps).toList = ps.toList.map fun p => (p.1, a.eval p.2) := by simp
        simp only [Sem.run_bind, Instr.build, z1, Result.andThen, run_underlying ht, run_sizeOf hsz, hps, f1, Sem.run_pure]
      · cases hc
    · cases hc
  · -- buildSlice
    (repeat' split at hc) <;> first | (cases hc; done) | (simp only [Option.map_eq_some_iff] at hc; obtain ⟨y, e1, rfl⟩ := hc; simp [Ins.map, pureEv] at he)
  · (repeat' split at hc) <;> first | (cases hc; done) | (cases hc; simp [Ins.map, pureEv] at he)
  · (repeat' split at hc) <;> first | (cases hc; done) | (cases hc; simp [Ins.map, pureEv] at he)
  · -- nilCheck
    rename_i x hop
    simp only [Option.map_eq_some_iff] at hc
    obtain ⟨y, e1, rfl⟩ := hc
    have r := opd_rep hp e1
    simp only [Ins.map, pureEv] at he
    simp only [hop]
    generalize a.eval x = u at r ⊢
    generalize σ.ev y = e at r he
    have r0 := r
    split at he <;> cases he <;> cases r <;> exact ⟨_, rfl, r0⟩
  · -- binOp
    rename_i op t x y yt hop
    split at hc
    · rename_i p1 p2 e1 e2
      have r1 := opd_rep hp e1
      have r2 := opd_rep hp e2
      simp only [hop]
      split at hc
      · (repeat' split at hc)
        · cases hc
          simp only [Ins.map, pureEv] at he
          obtain ⟨v, h1, h2⟩ := binEv_sound (P := P) r1 r2 he t x y
          exact Val.of h1 h2
        all_goals first
          | (cases hc; done)
          | (simp only [Option.map_eq_some_iff] at hc
             obtain ⟨et, e3, rfl⟩ := hc
             simp only [Ins.map, pureEv, Option.map_eq_some_iff] at he
             obtain ⟨b, e4, rfl⟩ := he
             refine Val.of (eqEv_sound (P := P) (etOf_T e3) r1 r2 e4 false x y (fun h => ?_)) (.bool _)
             first
               | (rename_i hcc; exact (Bool.or_eq_true _ _).mp hcc)
               | (subst h; simp_all))
      · (repeat' split at hc)
        · cases hc
          simp only [Ins.map, pureEv] at he
          obtain ⟨v, h1, h2⟩ := binEv_sound (P := P) r1 r2 he t x y
          exact Val.of h1 h2
        all_goals first
          | (cases hc; done)
          | (simp only [Option.map_eq_some_iff] at hc
             obtain ⟨et, e3, rfl⟩ := hc
             simp only [Ins.map, pureEv, Option.map_eq_some_iff] at he
             obtain ⟨b, e4, rfl⟩ := he
             refine Val.of (eqEv_sound (P := P) (etOf_T e3) r1 r2 e4 true x y (fun h => ?_)) (.bool _)
             first
               | (rename_i hcc; exact (Bool.or_eq_true _ _).mp hcc)
               | (subst h; simp_all))
      · split at hc
        · cases hc
          simp [Ins.map, pureEv] at he
        · cases hc
          simp only [Ins.map, pureEv] at he
          obtain ⟨v, h1, h2⟩ := binEv_sound (P := P) r1 r2 he t x y
          exact Val.of h1 h2
    · cases hc
  · -- unOp
    rename_i op t x hop
    simp only [Option.map_eq_some_iff] at hc
    obtain ⟨y, e1, rfl⟩ := hc
    simp only [Ins.map, pureEv] at he
    obtain ⟨v, h1, h2⟩ := unEv_sound (P := P) (opd_rep hp e1) he
    simp only [hop]
    exact Val.of h1 h2
  · -- convert
    rename_i s dt x hop
    split at hc
    · rename_i ck y e1 e2
      cases hc
      have r := opd_rep hp e2
      simp only [Ins.map, pureEv] at he
      simp only [hop]
      unfold ckOf at e1
      generalize a.eval x = u at r ⊢
      generalize σ.ev y = e at r he
      split at he
      · cases he; cases r
        rename_i k k' m
        refine Val.of (v := .int k (k.wrap m)) ?_ (.int _ _)
        split at e1 <;> (try split at e1) <;> cases e1
        rename_i h1 h2
        simp [convert, run_underlying h1, run_underlying h2, Conv.intToInt]
      · cases he; cases r
        rename_i k' m
        refine Val.of (v := .float .f64 (FloatKind.f64.nearest m)) ?_ (.float _ _)
        split at e1 <;> (try split at e1) <;> cases e1
        rename_i h1 h2
        simp [convert, run_underlying h1, run_underlying h2, Conv.intToFloat]
      · cases he; cases r
        rename_i s0 hs0
        refine Val.of (v := .string ⟨s0.toArray⟩) ?_ (.str _ hs0)
        split at e1 <;> (try split at e1) <;> cases e1
        rename_i h1 h2
        simp [convert, run_underlying h1, run_underlying h2]
      · simp only [Option.map_eq_some_iff] at he
        obtain ⟨n0, he1, rfl⟩ := he
        cases r
        rename_i k' m
        refine Val.of (v := .int k' n0) ?_ (.int _ _)
        split at e1 <;> (try split at e1) <;> cases e1
        rename_i h1 h2
        exact run_convert_float_int w s dt .f64 k' m n0 (by rw [h1]; rfl) h2 he1
      · cases he; cases r
        rename_i m
        refine Val.of (v := .float .f64 m) ?_ (.float _ _)
        split at e1 <;> (try split at e1) <;> cases e1
        rename_i h1 h2
        simp [convert, run_underlying h1, run_underlying h2, Conv.floatToFloat]
      · cases he
    · cases hc
  · -- sliceToArrayPointer
    rename_i t x hop
    split at hc
    · rename_i n el y h1 e1
      cases hc
      have r := opd_rep hp e1
      simp only [Ins.map, pureEv] at he
      simp only [hop]
      generalize a.eval x = u at r ⊢
      generalize σ.ev y = e at r he
      split at he
      · split at he
        · rename_i hn
          cases he
          cases r with
          | csl hl hv hln hcap ha =>
            rename_i cap0 p0 a0
            refine Val.of (v := .pointer (some a0)) ?_ (.ptr hl hv fun e => ?_)
            · simp only [Instr.arrayAt, Sem.run_bind, run_underlying h1, Result.andThen]
              rw [if_neg (by omega)]; rfl
            · rcases ha e with h0 | h0
              · omega
              · exact h0
        · cases he
      · cases he
    · cases hc
  · -- makeInterface
    rename_i t x hop
    split at hc
    · cases hc
    · rename_i hni ht
      simp only [Option.map_eq_some_iff] at hc
      obtain ⟨y, e1, rfl⟩ := hc
      simp only [Ins.map, pureEv, Option.some.injEq] at he
      subst he
      simp only [hop]
      rename_i td
      refine Val.of (v := .iface t (a.eval x)) ?_ (.iface (opd_rep hp e1))
      simp only [Instr.makeInterface, Sem.run_bind, run_underlying ht, Result.andThen]
      rfl
    · cases hc
  · -- makeFunc
    rename_i fn x y hop
    split at hc
    · rename_i xs ys e1 e2
      cases hc
      simp only [Ins.map, pureEv, Option.some.injEq] at he
      subst he
      simp only [hop]
      have r1 := opds_rep hp e1
      have r2 := opds_rep hp e2
      refine Val.of (v := .func fn (x.map a.eval) (y.map a.eval)) rfl ?_
      refine .func (by have := r1.length; simpa using this) (by have := r2.length; simpa using this) (fun i d hd => ?_) (fun i d hd => ?_)
      · obtain ⟨v, g1, g2⟩ := r1.get i d hd
        have : (x.map a.eval)[i]? = some v := by simpa using g1
        simpa [Array.getD_eq_getD_getElem?, this] using g2
      · obtain ⟨v, g1, g2⟩ := r2.get i d hd
        have : (y.map a.eval)[i]? = some v := by simpa using g1
        simpa [Array.getD_eq_getD_getElem?, this] using g2
    · cases hc
  · -- slice
    rename_i t x lo hi mx hop
    split at hc
    · rename_i x' lo' hi' e1 e2 e3 e4
      have hmx : mx = none := by
        cases mx with
        | none => rfl
        | some z => simp only [opdO, Option.map_eq_some_iff, reduceCtorEq, and_false, exists_false] at e4
      subst hmx
      have rl := opdO_rep hp e2
      have rh := opdO_rep hp e3
      have r := opd_rep hp e1
      simp only [hop]
      split at hc
      · rename_i ht
        cases hc
        simp only [Ins.map, pureEv, Option.map_none] at he
        obtain ⟨v, h1, h2⟩ := sliceEv_sound (k := .str) (t := t) ht r rl rh he
        exact Val.of h1 h2
      · rename_i el ht
        simp only [Option.map_eq_some_iff] at hc
        obtain ⟨sz, hs, rfl⟩ := hc
        simp only [Ins.map, pureEv, Option.map_none] at he
        obtain ⟨v, h1, h2⟩ := sliceEv_sound (k := .sl sz) (t := t) ⟨el, ht, hs⟩ r rl rh he
        exact Val.of h1 h2
      · rename_i m el ht
        split at hc
        · rename_i hs
          cases hc
          simp only [Ins.map, pureEv, Option.map_none] at he
          obtain ⟨v, h1, h2⟩ := sliceEv_sound (k := .arr m) (t := t) ⟨el, ht, hs⟩ r rl rh he
          exact Val.of h1 h2
        · cases hc
      · cases hc
    · cases hc
  · -- fieldAddr
    rename_i s x f hop
    split at hc
    · rename_i fs y e1 e2
      split at hc
      · rename_i fd e3
        split at hc
        · rename_i m e4
          split at hc
          · rename_i h0
            cases hc
            have hs : P.underlying s = some (.struct fs) := by
              unfold fieldsOf at e1
              split at e1 <;> cases e1
              assumption
            have r := opd_rep hp e2
            simp only [Ins.map, pureEv] at he
            simp only [hop]
            have key : ∀ ad : Addr, (Instr.fieldAt s (.pointer (some ad)) f).run P w = .ok (.pointer (some (ad.add fd.offset))) w := fun ad => by
              simp [Instr.fieldAt, run_underlying hs, e3, Instr.sureAddr, fieldPlace_run e4 h0]
            generalize hu : a.eval x = u at r
            generalize σ.ev y = e at r he
            split at he
            · cases he
              cases r with
              | ptr hl hv ha => exact Val.of (key _) (.ptr hl hv fun ev => by rw [ha ev, add_off, Nat.add_assoc])
            · cases he
              cases r with
              | eptr f hb hcc hr =>
                refine Val.of (key _) ?_
                rw [add_off, Nat.add_assoc]
                exact .eptr f hb hcc hr
            · cases he
              cases r with
              | rptr hl hv ha => exact Val.of (key _) (.rptr hl hv fun ev => by rw [ha ev, add_off, Nat.add_assoc])
            · cases he
          · cases hc
        · cases hc
      · cases hc
    · cases hc
  · -- field
    rename_i s x f hop
    split at hc
    · rename_i fs y e1 e2
      split at hc
      · rename_i fd e3
        simp only [Option.map_eq_some_iff] at hc
        obtain ⟨k, e4, rfl⟩ := hc
        have hs : P.underlying s = some (.struct fs) := by
          unfold fieldsOf at e1
          split at e1 <;> cases e1
          assumption
        have r := opd_rep hp e2
        simp only [Ins.map, pureEv] at he
        simp only [hop]
        generalize hu : a.eval x = u at r
        generalize σ.ev y = e at r he
        split at he
        · cases r with
          | agg hs' hr =>
          obtain ⟨v, h1, h2⟩ := partD_sound (P := P) (RepL.of_arr hs' hr) e4 he
          exact Val.of (by simp [Instr.field, run_underlying hs, e3, asAgg, h1]) h2
        · cases he
      · cases hc
    · cases hc
  · -- indexAddr
    rename_i t x i hop
    split at hc
    · rename_i x' i' e1 e2
      have r1 := opd_rep hp e1
      have r2 := opd_rep hp e2
      simp only [hop]
      split at hc
      · rename_i m el ht
        simp only [Option.map_eq_some_iff] at hc
        obtain ⟨sz, hs, rfl⟩ := hc
        simp only [Ins.map, pureEv] at he
        generalize a.eval x = u at r1
        generalize a.eval i = v at r2
        generalize σ.ev x' = ex at r1 he
        generalize σ.ev i' = ei at r2 he
        have key : ∀ (ad : Addr) (k : IntKind) (z : Int), 0 ≤ z ∧ z < (m : Int) → (Instr.indexAt t (.pointer (some ad)) (.int k z)).run P w = .ok (.pointer (some (ad.add (z.toNat * sz)))) w := fun ad k z hz => by
          simp [Instr.indexAt, asIntOf, run_underlying ht, Instr.sureAddr, hz, run_sizeOf hs]
        split at he
        · split at he
          · rename_i hb
            cases he; cases r2
            cases r1 with
            | ptr hl hv ha => exact Val.of (key _ _ _ hb) (.ptr hl hv fun ev => by rw [ha ev, add_off, Nat.add_assoc])
          · cases he
        · split at he
          · rename_i hb
            cases he; cases r2
            cases r1 with
            | eptr f hb' hcc hr =>
              refine Val.of (key _ _ _ hb) ?_
              rw [add_off, Nat.add_assoc]
              exact .eptr f hb' hcc hr
          · cases he
        · split at he
          · rename_i hb
            cases he; cases r2
            cases r1 with
            | rptr hl hv ha => exact Val.of (key _ _ _ hb) (.rptr hl hv fun ev => by rw [ha ev, add_off, Nat.add_assoc])
          · cases he
        · cases he
      · rename_i el ht
        split at hc
        case h_2 => cases hc
        rename_i sz hs
        split at hc
        case isFalse => cases hc
        rename_i hpos
        cases hc
        simp only [Ins.map, pureEv] at he
        generalize a.eval x = u at r1
        generalize a.eval i = v at r2
        generalize σ.ev x' = ex at r1 he
        generalize σ.ev i' = ei at r2 he
        have key : ∀ (ad : Addr) (len cap : Nat) (k : IntKind) (z : Int), 0 ≤ z ∧ z < (len : Int) → (Instr.indexAt t (.slice (some ad) len cap) (.int k z)).run P w = .ok (.pointer (some (ad.add (z.toNat * sz)))) w := fun ad len cap k z hz => by
          simp [Instr.indexAt, asIntOf, run_underlying ht, Instr.sureAddr, hz, run_sizeOf hs]
        split at he
        · split at he
          · rename_i xs k0 z h0
            split at he
            · rename_i y hy
              split at he
              · rename_i hl
                cases he; cases r2
                have hlt : z.toNat < xs.length := (List.getElem?_eq_some_iff.1 hy).1
                cases r1 with
                | slnil => simp at hy
                | sl f hn hcap hsz' hcc hr =>
                  rename_i bb oo szz cap
                  have hszy : szz = sz := by rw [← hsz' y (List.mem_of_getElem? hy), hl]
                  subst hszy
                  refine Val.of (key _ _ _ _ _ ⟨h0, by omega⟩) ?_
                  rw [add_off]
                  · have h1 : 0 < y.length := by omega
                    have himm := (hcc _ y 0 y[0] hy (by simp [h1])).1
                    have := Rep.eptr (κ := κ) (w := w) (b := bb) (base := oo + z.toNat * szz) (off := 0) (cells := y) (f z.toNat) himm (fun j d hj => (hcc _ y j d hy hj).2) (fun j d hj => hr _ y j d hy hj)
                    simpa using this
              · cases he
            · cases he
          · cases he
        · split at he
          · rename_i hb
            obtain ⟨b1, b2, b3⟩ := hb
            cases he; cases r2
            cases r1 with
            | csl hl hv hn hcap ha =>
              refine Val.of (key _ _ _ _ _ ⟨b1, b2⟩) (.ptr hl hv fun ev => ?_)
              rcases ha ev with h0 | h0
              · omega
              · subst b3
                rw [h0, add_off, Nat.mul_one, Nat.add_assoc]
          · cases he
        · cases he
      · cases hc
    · cases hc
  · -- index
    rename_i t x i hop
    split at hc
    · rename_i x' i' e1 e2
      have r1 := opd_rep hp e1
      have r2 := opd_rep hp e2
      simp only [hop]
      split at hc
      · rename_i m el ht
        split at hc
        · rename_i sz k e3 e4
          cases hc
          simp only [Ins.map, pureEv] at he
          generalize a.eval x = u at r1
          generalize a.eval i = v at r2
          generalize σ.ev x' = ex at r1 he
          generalize σ.ev i' = ei at r2 he
          split at he
          · split at he
            · rename_i hb
              cases r2
              cases r1 with
              | agg hs' hr =>
              obtain ⟨v, h1, h2⟩ := partD_sound (P := P) (RepL.of_arr hs' hr) e4 he
              refine Val.of ?_ h2
              simp [Instr.index, asIntOf, run_underlying ht, hb, run_sizeOf e3, h1]
            · cases he
          · cases he
        · cases hc
      · rename_i ht
        cases hc
        simp only [Ins.map, pureEv] at he
        generalize a.eval x = u at r1
        generalize a.eval i = v at r2
        generalize σ.ev x' = ex at r1 he
        generalize σ.ev i' = ei at r2 he
        split at he
        · rename_i s0 k0 i0
          split at he
          · rename_i h0
            split at he
            · rename_i b hb
              cases he; cases r1; cases r2
              refine Val.of (v := .int .u8 (b.toNat : Int)) ?_ (.int _ _)
              have hlt : i0.toNat < s0.length := (List.getElem?_eq_some_iff.1 hb).1
              have hb' : (⟨s0.toArray⟩ : ByteArray)[i0.toNat]? = some b := by
                rw [ByteArray.getElem?_lt' _ _ (by rw [size_mk]; exact hlt)]
                have := (List.getElem?_eq_some_iff.1 hb).2
                simp [ByteArray.getElem_eq_getElem_data, this]
              simp [Instr.index, asIntOf, run_underlying ht, h0, hb']
            · cases he
          · cases he
        · cases he
      · cases hc
    · cases hc
  · -- extract
    rename_i x i hop
    simp only [Option.map_eq_some_iff] at hc
    obtain ⟨y, e1, rfl⟩ := hc
    have r := opd_rep hp e1
    simp only [Ins.map, pureEv] at he
    simp only [hop]
    generalize a.eval x = u at r
    generalize σ.ev y = e at r he
    split at he
    · cases r with
      | tuple hs hr =>
      obtain ⟨v, h1, h2⟩ := arr_get (RepL.of_arr hs hr) i d he
      exact Val.of (by simp [Instr.extract, h1]) h2
    · cases he
  · simp only [Option.map_eq_some_iff] at hc; obtain ⟨y, e1, rfl⟩ := hc; simp [Ins.map, pureEv] at he
  · -- call
    rename_i c hop
    split at hc
    · split at hc
      · split at hc <;> (cases hc; simp [Ins.map, pureEv] at he)
      · cases hc
    · rename_i b hcal
      have hres : ∀ vs : Array Value, c.args.map a.eval = vs → (execOp a.eval o).run P w = (builtin b c.argTypes o.type (c.args.map fun x => match x with | .const _ => true | _ => false) vs).run P w := fun vs hvs => by
        simp only [execOp, hop, Sem.run_bind, resolve, hcal, hvs]
        rfl
      unfold execOp at hres
      split at hc
      all_goals first
        | (cases hc; done)
        | ((repeat' split at hc) <;> first | (cases hc; done) | (cases hc; simp [Ins.map, pureEv] at he; done) | skip)
      all_goals
        rename_i x y e2
        cases hc
        obtain ⟨v, u, h1, r1, r2⟩ := opds_two hp e2
        have h2 := hres _ h1
        simp only [Ins.map, pureEv] at he
        generalize σ.ev x = ex at r1 he
        generalize σ.ev y = ey at r2 he
        split at he
        · cases he; cases r1; cases r2
          refine ⟨_, h2.trans ?_, .int _ _⟩
          simp [builtin, Builtin.min_, Builtin.max_, Builtin.min2, Builtin.max2]
        · cases he
    · cases hc
  · (repeat' split at hc) <;> first | (cases hc; done) | (simp only [Option.map_eq_some_iff] at hc; obtain ⟨y, e1, rfl⟩ := hc; simp [Ins.map, pureEv] at he)
  · (repeat' split at hc) <;> first | (cases hc; done) | (simp only [Option.map_eq_some_iff] at hc; obtain ⟨y, e1, rfl⟩ := hc; simp [Ins.map, pureEv] at he)
  · (repeat' split at hc) <;> first | (cases hc; done) | (cases hc; simp [Ins.map, pureEv] at he)
  · cases hc
end Go.Proofs.YthpgepillaeldaaDoor.Zz
