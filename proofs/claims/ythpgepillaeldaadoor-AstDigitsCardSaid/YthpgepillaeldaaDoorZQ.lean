/- Operations, with their guards; rows of operations; any order of evaluation. -/
import Derived.Test.YthpgepillaeldaaDoorZP
import Derived.Orders
set_option linter.unusedVariables false
set_option linter.unusedSimpArgs false
namespace Go.Proofs.YthpgepillaeldaaDoor.Zz

/-- An operation: what it does; where its value goes; its guard (a slot, and what must stand there); p: it only reckons. -/
structure OpI where
  i : Ins Opd
  d : Option Nat
  g : Option (Nat × Bool)
  p : Bool

def lenD : LK → D → Option D
  | .str, .str s => some (.int .i64 (s.length : Int))
  | .arr n, _ => some (.int .i64 (n : Int))
  | .sl, .nilsl => some (.int .i64 0)
  | .sl, .sl xs => some (.int .i64 (xs.length : Int))
  | .sl, .row r ver off len => some (.int .i64 (len : Int))
  | .sl, .csl id off len => some (.int .i64 (len : Int))
  | _, _ => none

/-- What an operation that only reckons comes to. -/
def valP : Ins D → Option D
  | .pick c a b => match c with
    | .bool c => some (bif c then a else b)
    | _ => none
  | .buildSlice sz zs len ps asRow => match asRow with
    | false => (buildRows sz (rowsOf sz zs len) ps).map fun xs => .sl (normX zs xs)
    | true => none
  | .conv c x => match c, x with
    | .strBytes, .str s => some (.sl (encB s))
    | .strBytes, _ => none
    | c, x => pureEv (.conv c x)
  | .len0 k x => lenD k x
  | i => pureEv i

/-- What an operation asks. -/
def vcO (T : Tab) (p : Bool) (i : Ins D) (h : AHeap) (K : D → AHeap → Prop) (E : D → AHeap → Prop) : Prop :=
  match p with
  | true => ∃ d, valP i = some d ∧ K d h
  | false => vcI T i h K E

/-- An operation, seen by the value that it comes to. -/
def opB (T : Tab) (o : OpI) (K : D → AHeap → Prop) (E : D → AHeap → Prop) (σ : Fr) (h : AHeap) : Prop :=
  match o.g with
  | none => vcO T o.p (o.i.map σ.ev) h K E
  | some (t, want) => match σ.env t with
    | .bool b => (b = want → vcO T o.p (o.i.map σ.ev) h K E) ∧ (b = !want → K (.tuple []) h)
    | .tuple [] => K (.tuple []) h
    | _ => False

/-- An operation in its frame; when its guard has been asked, the slot holds the answer. -/
def opA (T : Tab) (o : OpI) (K : Fr → AHeap → Prop) (E : D → AHeap → Prop) (σ : Fr) (h : AHeap) : Prop :=
  match o.g with
  | none => vcO T o.p (o.i.map σ.ev) h (fun d h' => K (σ.put o.d d) h') E
  | some (t, want) => match σ.env t with
    | .bool b => (b = want → vcO T o.p (o.i.map σ.ev) h (fun d h' => K ((σ.put (some t) (.bool want)).put o.d d) h') E) ∧
        (b = !want → K ((σ.put (some t) (.bool (!want))).put o.d (.tuple [])) h)
    | .tuple [] => K (σ.put o.d (.tuple [])) h
    | _ => False

theorem Fr.put_same {σ : Fr} {t : Nat} {d : D} (e : σ.env t = d) : σ.put (some t) d = σ :=
  Fr.ext (fun i => by simp only [Fr.put_some]; split <;> simp_all) rfl
theorem opA_iff {T : Tab} {o : OpI} {K : Fr → AHeap → Prop} {E : D → AHeap → Prop} {σ : Fr} {h : AHeap} : opA T o K E σ h ↔ opB T o (fun d h' => K (σ.put o.d d) h') E σ h := by
  unfold opA opB
  cases hg : o.g with
  | none => rfl
  | some tw =>
    obtain ⟨t, want⟩ := tw
    simp only
    cases e : σ.env t with
    | bool b =>
      simp only
      constructor
      · rintro ⟨h1, h2⟩
        refine ⟨fun hb => ?_, fun hb => ?_⟩
        · subst hb; rw [Fr.put_same e] at h1; exact h1 rfl
        · subst hb; rw [Fr.put_same e] at h2; exact h2 rfl
      · rintro ⟨h1, h2⟩
        refine ⟨fun hb => ?_, fun hb => ?_⟩
        · subst hb; rw [Fr.put_same e]; exact h1 rfl
        · subst hb; rw [Fr.put_same e]; exact h2 rfl
    | tuple ds => cases ds <;> rfl
    | _ => rfl

def vcOps (T : Tab) : List OpI → (Fr → AHeap → Prop) → (List DDef → D → AHeap → Prop) → Fr → AHeap → Prop
  | [], K, E, σ, h => K σ h
  | o :: os, K, E, σ, h => opA T o (fun σ' h' => vcOps T os K E σ' h') (E σ.defs) σ h

/-! ### Monotony -/
theorem ACalls.mono [Globs] {P : Program} {f : FuncId} {args : List D} {h : AHeap} {R R' : AOut → AHeap → Prop} (c : ACalls P f args h R) (hr : ∀ o h', R o h' → R' o h') : ACalls P f args h R' :=
  ⟨c.1, fun κ w vs i r => (c.2 κ w vs i r).mono fun e w' ⟨o, h', κ', a1, a2⟩ => ⟨o, h', κ', hr o h' a1, a2⟩⟩
theorem AOut.to_mono {K K' E E' : D → AHeap → Prop} (hk : ∀ d h, K d h → K' d h) (he : ∀ d h, E d h → E' d h) (o : AOut) (h : AHeap) (x : AOut.to K E o h) : AOut.to K' E' o h := by
  cases o with
  | ret d => exact hk _ _ x
  | panic d => exact he _ _ x

theorem vcI_mono {T : Tab} {i : Ins D} {h : AHeap} {K K' E E' : D → AHeap → Prop} (hk : ∀ d h, K d h → K' d h) (he : ∀ d h, E d h → E' d h) (hv : vcI T i h K E) : vcI T i h K' E' := by
  have ex : ∀ {p : D → Prop}, (∃ d, p d ∧ K d h) → ∃ d, p d ∧ K' d h := fun ⟨d, a, b⟩ => ⟨d, a, hk _ _ b⟩
  cases i with
  | pick c a b =>
    cases c <;> first | exact hv.elim | exact ⟨fun e => hk _ _ (hv.1 e), fun e => hk _ _ (hv.2 e)⟩
  | alloc ds => exact fun id hid => hk _ _ (hv id hid)
  | box x => exact ⟨hv.1, fun id hid => hk _ _ (hv.2 id hid)⟩
  | buildSlice sz zs len ps r =>
    obtain ⟨xs, h1, h2⟩ := hv
    refine ⟨xs, h1, ?_⟩
    cases r with
    | true => exact fun id hid => hk _ _ (h2 id hid)
    | false => exact hk _ _ h2
  | load n x => exact ex hv
  | loadOf n x b => exact ex hv
  | callA k => obtain ⟨ds, h1, h2⟩ := hv; exact ⟨ds, h1, fun id hid => hk _ _ (h2 id hid)⟩
  | store n x v => obtain ⟨h', h1, h2⟩ := hv; exact ⟨h', h1, hk _ _ h2⟩
  | storeNe n x v ys => obtain ⟨h0, h', h1, h2⟩ := hv; exact ⟨h0, h', h1, hk _ _ h2⟩
  | conv c x =>
    cases c with
    | bytesStr => exact ex hv
    | strBytes => cases x <;> first | exact hv.elim | exact hk _ _ hv
    | _ => exact ex hv
  | slice k x lo hi mx => cases x <;> exact ex hv
  | indexAddrS sz x i => cases x <;> exact ex hv
  | len k x =>
    cases k with
    | arr n => exact hk _ _ hv
    | str => cases x <;> first | exact hv.elim | exact fun e => hk _ _ (hv e)
    | sl => cases x <;> first | exact hv.elim | exact fun e => hk _ _ (hv e) | exact hk _ _ hv
    | map => cases x <;> exact hv.elim
  | append sz bytes str s x =>
    obtain ⟨ys, h1, h2, h3, h4⟩ := hv
    refine ⟨ys, h1, h2, h3, ?_⟩
    cases s with
    | nilsl => exact ⟨fun e => hk _ _ (h4.1 e), h4.2.1, fun e id hid => hk _ _ (h4.2.2 e id hid)⟩
    | row r ver off len =>
      simp only at h4 ⊢
      split at h4
      · obtain ⟨a1, a2, a3, a4, a5, a6⟩ := h4
        exact ⟨a1, a2, a3, a4, a5, hk _ _ a6⟩
      · exact h4.elim
    | _ => exact h4.elim
  | makeSlice sz bytes zs l c =>
    cases l with
    | int k l => cases c with
      | int k' c =>
        obtain ⟨a1, a2, a3, a4, a5, a6⟩ := hv
        exact ⟨a1, a2, a3, a4, a5, fun id hid => hk _ _ (a6 id hid)⟩
      | _ => exact hv.elim
    | _ => exact hv.elim
  | call f args =>
    simp only [vcI] at hv ⊢
    split at hv
    · exact T.mono _ _ _ _ _ _ _ hk he hv
    · exact hv.elim
  | callNe f args ys =>
    simp only [vcI] at hv ⊢
    split at hv
    · exact T.mono _ _ _ _ _ _ _ (fun d h k => ⟨k.1, hk _ _ k.2⟩) he hv
    · exact hv.elim
  | qcall f args =>
    simp only [vcI] at hv ⊢
    split at hv
    · obtain ⟨d, e, x⟩ := hv; exact ⟨d, e, hk _ _ x⟩
    · exact hv.elim
  | panic x => cases x <;> first | exact hv.elim | exact he _ _ hv
  | len0 => exact hv.elim
  | typeAssert => exact hv.elim
  | makeMap => exact hv.elim
  | lookup => exact hv.elim
  | mapUpdate => exact hv.elim
  | delete => exact hv.elim
  | defer => exact hv.elim
  | srange x => cases x <;> first | exact hv.elim | exact fun id hid => hk _ _ (hv id hid)
  | snext x =>
    cases x with
    | iter id =>
      simp only [vcI] at hv ⊢
      split at hv
      · exact ⟨fun e => hk _ _ (hv.1 e), fun e => hk _ _ (hv.2 e)⟩
      · exact hv.elim
    | _ => exact hv.elim
  | farith op x y =>
    simp only [vcI] at hv ⊢
    split at hv
    · refine ⟨hv.1, ?_⟩
      have h2 := hv.2
      split at h2
      · exact hk _ _ h2
      · exact fun r hr => hk _ _ (h2 r hr)
    · exact hv.elim
  | _ => exact ex hv
theorem vcO_mono {T : Tab} {p : Bool} {i : Ins D} {h : AHeap} {K K' E E' : D → AHeap → Prop} (hk : ∀ d h, K d h → K' d h) (he : ∀ d h, E d h → E' d h) (hv : vcO T p i h K E) : vcO T p i h K' E' := by
  cases p with
  | true => obtain ⟨d, a, b⟩ := hv; exact ⟨d, a, hk _ _ b⟩
  | false => exact vcI_mono hk he hv
theorem opB_mono {T : Tab} {o : OpI} {σ : Fr} {h : AHeap} {K K' E E' : D → AHeap → Prop} (hk : ∀ d h, K d h → K' d h) (he : ∀ d h, E d h → E' d h) (hv : opB T o K E σ h) : opB T o K' E' σ h := by
  unfold opB at *
  cases hg : o.g with
  | none => simp only [hg] at hv; exact vcO_mono hk he hv
  | some tw =>
    obtain ⟨t, want⟩ := tw
    simp only [hg] at hv ⊢
    split at hv
    · exact ⟨fun e => vcO_mono hk he (hv.1 e), fun e => hk _ _ (hv.2 e)⟩
    · exact hk _ _ hv
    · exact hv.elim
theorem opA_mono {T : Tab} {o : OpI} {σ : Fr} {h : AHeap} {K K' : Fr → AHeap → Prop} {E E' : D → AHeap → Prop} (hk : ∀ σ h, K σ h → K' σ h) (he : ∀ d h, E d h → E' d h) (hv : opA T o K E σ h) : opA T o K' E' σ h :=
  opA_iff.2 (opB_mono (fun _ _ => hk _ _) he (opA_iff.1 hv))
theorem vcOps_mono {T : Tab} {os : List OpI} : ∀ {σ : Fr} {h : AHeap} {K K' : Fr → AHeap → Prop} {E E' : List DDef → D → AHeap → Prop} (hk : ∀ σ h, K σ h → K' σ h) (he : ∀ ds d h, E ds d h → E' ds d h) (hv : vcOps T os K E σ h), vcOps T os K' E' σ h := by
  induction os with
  | nil => exact fun hk he hv => hk _ _ hv
  | cons o os ih => exact fun hk he hv => opA_mono (fun _ _ x => ih hk he x) (he _) hv

/-! ### From code -/
/-- What is told of a function's code by hand: which literals of slices are rows; which calls reach the heap; what looks at a row. Each: the region, the operation. -/
structure Cfg where
  rows : List (Nat × Nat)
  loud : List (Nat × Nat)
  looks : List (Nat × Nat)
  nes : List ((Nat × Nat) × List Opd)
  bases : List ((Nat × Nat) × Opd)
  news : List (Nat × Nat)

def Ins.mayP : Ins Opd → Bool
  | .alloc _ | .box _ | .farith .. | .loadOf .. | .callA _ | .load .. | .store .. | .storeNe .. | .append .. | .makeSlice .. | .call .. | .callNe .. | .qcall .. | .panic _ | .defer .. | .typeAssert .. | .makeMap | .lookup .. | .mapUpdate .. | .delete .. | .len .. | .srange _ | .snext _ => false
  | .buildSlice _ _ _ _ r => !r
  | .conv c _ => !(c == .bytesStr)
  | _ => true

def compG (ops : Array Oper) (o : Oper) : Option (Option (Nat × Bool)) :=
  match o.guard with
  | none => some none
  | some (j, want) => match ops[j]? with
    | some oj => match oj.dst with
      | some t => some (some (t, want))
      | none => none
    | none => none

def dstOk (n : Nat) (o : Oper) : Bool :=
  match o.dst with
  | some t => decide (t < n)
  | none => true

def compO [Globs] (P : Program) (n : Nat) (cfg : Cfg) (drawn : Bool) (r : Nat) (ops : Array Oper) (j : Nat) : Option OpI :=
  match ops[j]? with
  | none => none
  | some o =>
    if dstOk n o = true then
      match compI P (cfg.rows.contains (r, j)) (!cfg.loud.contains (r, j)) o, compG ops o with
      | some (.len k x), some g => if drawn then some ⟨.len0 k x, o.dst, g, true⟩ else some ⟨.len k x, o.dst, g, false⟩
      | some (.store k x v), some g => match cfg.nes.lookup (r, j) with
        | some ys => some ⟨.storeNe k x v ys, o.dst, g, false⟩
        | none => some ⟨.store k x v, o.dst, g, false⟩
      | some (.load k x), some g => match cfg.bases.lookup (r, j) with
        | some b => some ⟨.loadOf k x b, o.dst, g, false⟩
        | none => some ⟨.load k x, o.dst, g, false⟩
      | some (.call (.f k) []), some g => if cfg.news.contains (r, j) then some ⟨.callA k, o.dst, g, false⟩ else some ⟨.call (.f k) [], o.dst, g, false⟩
      | some (.call f as), some g => match cfg.nes.lookup (r, j) with
        | some ys => some ⟨.callNe f as ys, o.dst, g, false⟩
        | none => some ⟨.call f as, o.dst, g, false⟩
      | some i, some g => some ⟨i, o.dst, g, i.mayP && (drawn || !(match i with | .slice .. | .indexAddrS .. => true | _ => false)) && !cfg.looks.contains (r, j)⟩
      | _, _ => none
    else none

/-- What only reckons is one of the instructions. -/
theorem valP_vcI {T : Tab} {i : Ins D} {d : D} {h : AHeap} {K E : D → AHeap → Prop} (hv : valP i = some d) (hk : K d h) (hp : ∀ k x, i ≠ .len0 k x) : vcI T i h K E := by
  have ex : pureEv i = some d → ∃ d, pureEv i = some d ∧ K d h := fun e => ⟨d, e, hk⟩
  cases i with
  | pick c a b =>
    cases c with
    | bool c =>
      simp only [valP, Option.some.injEq] at hv
      subst hv
      exact ⟨fun e => by subst e; exact hk, fun e => by subst e; exact hk⟩
    | _ => simp [valP] at hv
  | buildSlice sz zs len ps r =>
    cases r with
    | true => simp [valP] at hv
    | false =>
      simp only [valP, Option.map_eq_some_iff] at hv
      obtain ⟨xs, h1, rfl⟩ := hv
      exact ⟨xs, h1, hk⟩
  | conv c x =>
    cases c with
    | strBytes => cases x <;> first | (simp [valP] at hv; done) | (simp only [valP, Option.some.injEq] at hv; subst hv; exact hk)
    | bytesStr => cases x <;> simp [valP, pureEv] at hv
    | _ => cases x <;> first | (simp [valP, pureEv] at hv; done) | exact ex hv
  | len0 k x => exact absurd rfl (hp k x)
  | slice k x lo hi mx =>
    cases x with
    | row r ver off len => 
      simp only [valP, pureEv, sliceEv] at hv
      split at hv
      · cases hv
      · cases k <;> simp at hv
    | _ => exact ex hv
  | indexAddrS sz x i => cases x <;> first | (simp [valP, pureEv] at hv; done) | exact ex hv
  | _ => first | exact ex hv | (simp [valP, pureEv] at hv; done)
end Go.Proofs.YthpgepillaeldaaDoor.Zz
