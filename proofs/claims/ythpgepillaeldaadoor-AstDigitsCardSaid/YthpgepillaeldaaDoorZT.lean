/- Code as statements; what they ask; contracts of functions. -/
import Derived.Test.YthpgepillaeldaaDoorZS
set_option linter.unusedVariables false
set_option linter.unusedSimpArgs false
namespace Go.Proofs.YthpgepillaeldaaDoor.Zz

inductive Stm where
  | skip
  | ops (l : List OpI)
  | seq (a b : Stm)
  | cond (c : Opd) (a b : Stm)
  | block (id : Nat) (s : Stm)
  | loop (s : Stm)
  | exit (id : Nat)
  | ret

structure Plan where
  cfg : Cfg
  ords : List (Nat × List Nat)

def compR [Globs] (P : Program) (n : Nat) (pl : Plan) (id : Nat) (ops : Array Oper) (draw : Bool) : Option (List OpI) :=
  match draw with
  | false => (List.range ops.size).mapM (compO P n pl.cfg false id ops)
  | true => match pl.ords.lookup id with
    | some l => if P.follows .mixedOrders = true ∧ chkOrd .any ops (compO P n pl.cfg true id ops) l (Array.replicate ops.size false) = true ∧ l.length ≤ ops.size then l.mapM (compO P n pl.cfg true id ops) else none
    | none => none

def comp [Globs] (P : Program) (n : Nat) (pl : Plan) : Code → Option Stm
  | .skip => some .skip
  | .region id ops draw => (compR P n pl id ops draw).map .ops
  | .seq a b => match comp P n pl a, comp P n pl b with
    | some a, some b => some (.seq a b)
    | _, _ => none
  | .cond c a b => match opd c, comp P n pl a, comp P n pl b with
    | some c, some a, some b => some (.cond c a b)
    | _, _, _ => none
  | .block id c => (comp P n pl c).map (.block id)
  | .loop c => (comp P n pl c).map .loop
  | .exit id => some (.exit id)
  | .ret => some .ret
  | _ => none

/-- A frame of which less is told. -/
def Fr.le (τ σ : Fr) : Prop := (∀ i, τ.env i = .undef ∨ τ.env i = σ.env i) ∧ τ.defs = σ.defs
/-- A condition has been asked: the slot holds the answer. -/
def Fr.mark (σ : Fr) (c : Opd) (b : Bool) : Fr :=
  match c with
  | .t n => σ.put (some n) (.bool b)
  | _ => σ

def vc (T : Tab) : Stm → (Ex → Fr → AHeap → Prop) → (List DDef → D → AHeap → Prop) → Fr → AHeap → Prop
  | .skip, K, E, σ, h => K .normal σ h
  | .ops l, K, E, σ, h => vcOps T l (K .normal) E σ h
  | .seq a b, K, E, σ, h => vc T a (fun e σ' h' => match e with | .normal => vc T b K E σ' h' | e => K e σ' h') E σ h
  | .cond c a b, K, E, σ, h => match σ.ev c with
    | .bool t => (t = true → vc T a K E (σ.mark c true) h) ∧ (t = false → vc T b K E (σ.mark c false) h)
    | _ => False
  | .block id s, K, E, σ, h => vc T s (fun e σ' h' => match e with | .exit i => if i = id then K .normal σ' h' else K (.exit i) σ' h' | e => K e σ' h') E σ h
  | .loop s, K, E, σ, h => ∃ (X : Type) (F : X → Fr) (H : X → AHeap) (μ : X → Nat) (I : X → Prop) (x0 : X), I x0 ∧ (F x0).le σ ∧ (H x0).sub h ∧
      ∀ x, I x → vc T s (fun e σ' h' => match e with | .normal => ∃ x', I x' ∧ (F x').le σ' ∧ (H x').sub h' ∧ μ x' < μ x | e => K e σ' h') E (F x) (H x)
  | .exit id, K, E, σ, h => K (.exit id) σ h
  | .ret, K, E, σ, h => K .ret σ h

theorem vc_mono {T : Tab} {s : Stm} : ∀ {K K' : Ex → Fr → AHeap → Prop} {E E' : List DDef → D → AHeap → Prop} {σ : Fr} {h : AHeap} (hk : ∀ e σ h, K e σ h → K' e σ h) (he : ∀ ds d h, E ds d h → E' ds d h) (hv : vc T s K E σ h), vc T s K' E' σ h := by
  induction s with
  | skip => exact fun hk he hv => hk _ _ _ hv
  | ops l => exact fun hk he hv => vcOps_mono (hk _) he hv
  | seq a b iha ihb =>
    intro K K' E E' σ h hk he hv
    exact iha (fun e σ' h' k => by
      cases e with
      | normal => exact ihb hk he k
      | _ => exact hk _ _ _ k) he hv
  | cond c a b iha ihb =>
    intro K K' E E' σ h hk he hv
    simp only [vc] at hv ⊢
    split at hv
    · exact ⟨fun e => iha hk he (hv.1 e), fun e => ihb hk he (hv.2 e)⟩
    · exact hv.elim
  | block id s ih =>
    intro K K' E E' σ h hk he hv
    exact ih (fun e σ' h' k => by
      cases e with
      | exit i =>
        simp only at k ⊢
        split
        · rename_i e; rw [if_pos e] at k; exact hk _ _ _ k
        · rename_i e; rw [if_neg e] at k; exact hk _ _ _ k
      | _ => exact hk _ _ _ k) he hv
  | loop s ih =>
    intro K K' E E' σ h hk he hv
    obtain ⟨X, F, H, μ, I, x0, a1, a2, a3, a4⟩ := hv
    exact ⟨X, F, H, μ, I, x0, a1, a2, a3, fun x hx => ih (fun e σ' h' k => by
      cases e with
      | normal => exact k
      | _ => exact hk _ _ _ k) he (a4 x hx)⟩
  | exit id => exact fun hk he hv => hk _ _ _ hv
  | ret => exact fun hk he hv => hk _ _ _ hv

/-! ### They do what they ask -/
variable {P : Program} {T : Tab} {κ : Kap} {h : AHeap} {w : World} {σ : Fr} {n : Nat} {a : Act}

theorem Pre.le [Globs] {τ : Fr} (hp : Pre κ w σ n a) (l : τ.le σ) : Pre κ w τ n a :=
  ⟨hp.size, fun i => by
    rcases l.1 i with e | e
    · rw [e]; exact .undef _
    · rw [e]; exact hp.env i, by rw [l.2]; exact hp.defs, hp.glob⟩
theorem wp_loopX {c : Code} {Q : Exit → Act → World → Prop} {X : Type} (I : X → Act → World → Prop) (μ : X → Nat) (x0 : X) {a : Act} {w : World} (h₀ : I x0 a w)
    (round : ∀ x a w, I x a w → c.wp P (Exit.then (fun a' w' => ∃ x', I x' a' w' ∧ μ x' < μ x) Q) a w) : (Code.loop c).wp P Q a w := by
  intro b k cs
  have key : ∀ n x a w, μ x = n → I x a w →
      ∃ e a' w', Q e a' w' ∧ Arrives P (lone (b.at a (.code c :: .inLoop c :: k)) cs w) b k cs e a' w' := by
    intro n
    induction n using Nat.strongRecOn with
    | _ n ih =>
      intro x a w hn hI
      obtain ⟨e, a₁, w₁, hq, harr⟩ := round x a w hI b (.inLoop c :: k) cs
      cases e with
      | normal =>
        obtain ⟨x', hI₁, hlt⟩ := hq
        obtain ⟨e₂, a₂, w₂, hq₂, harr₂⟩ := ih (μ x') (hn ▸ hlt) x' a₁ w₁ rfl hI₁
        exact ⟨e₂, a₂, w₂, hq₂, .of_steps (Steps.trans harr (.one step_inLoop)) harr₂⟩
      | exit id => exact ⟨_, a₁, w₁, hq, .pass (x := .inLoop c) rfl (fun _ _ => .inl (by simp)) harr⟩
      | goto l => exact ⟨_, a₁, w₁, hq, .pass (x := .inLoop c) rfl (fun _ _ => .inl (by simp)) harr⟩
      | ret => exact ⟨_, a₁, w₁, hq, .pass (x := .inLoop c) rfl (fun _ _ => .inl (by simp)) harr⟩
      | panic ch => exact ⟨_, a₁, w₁, hq, .pass (x := .inLoop c) rfl (fun _ _ => .inl (by simp)) harr⟩
      | outgrown => exact ⟨_, a₁, w₁, hq, .pass (x := .inLoop c) rfl (fun _ _ => .inl (by simp)) harr⟩
  obtain ⟨e, a', w', hq, harr⟩ := key _ x0 a w rfl h₀
  exact ⟨e, a', w', hq, .of_steps (.one step_loop) harr⟩

theorem vc_sound [Globs] (hT : T.ok P) {κ0 : Kap} {h0 : AHeap} {w0 : World} {pl : Plan} : ∀ (c : Code) (s : Stm) (hc : comp P n pl c = some s) (K : Ex → Fr → AHeap → Prop) (E : List DDef → D → AHeap → Prop) (κ : Kap) (h : AHeap) (w : World) (σ : Fr) (a : Act),
    Inv κ h w → Pre κ w σ n a → Ev κ0 h0 w0 κ h w → vc T s K E σ h → c.wp P (QK κ0 h0 w0 n K E) a w := by
  intro c
  induction c with
  | skip => intro s hc K E κ h w σ a hi hp ev hv; cases hc; exact wp_skip ⟨κ, h, σ, hv, hi, hp, ev⟩
  | region id ops draw =>
    intro s hc K E κ h w σ a hi hp ev hv
    simp only [comp, Option.map_eq_some_iff] at hc
    obtain ⟨l, hl, rfl⟩ := hc
    unfold compR at hl
    cases draw with
    | false => exact wp_region (ops_sound hT _ _ hl κ h w σ a hi hp ev hv)
    | true =>
      simp only at hl
      split at hl
      · rename_i ord hord
        split at hl
        · rename_i hcc
          obtain ⟨c1, c2, c3⟩ := hcc
          refine wp_region_draw fun t => ?_
          have e1 : Ev κ h w κ h { w with drawn := w.drawn + 1 } := Ev.of_heap rfl rfl rfl rfl
          have hi1 : Inv κ h { w with drawn := w.drawn + 1 } := hi.of_heap rfl
          have hp1 := hp.mono (e1.le hi)
          simp only [Region.schedule, c1, Bool.true_or, if_true]
          refine any_sound hT (cfg := pl.cfg) (dr := true) (r := id) ops.size t _ κ h _ σ a hi1 hp1 (ev.trans e1) ?_
          exact chkOrd_sound ord ops.size l _ (List.range ops.size) σ h c2 hl (by simp) (fun j hj _ => by simpa using hj) Down.none c3 hv
        · cases hl
      · cases hl
  | seq x y ihx ihy =>
    intro s hc K E κ h w σ a hi hp ev hv
    simp only [comp] at hc
    split at hc
    · rename_i sx sy h1 h2
      cases hc
      refine wp_seq (wp_mono (ihx sx h1 _ E κ h w σ a hi hp ev hv) fun e a' w' q => ?_)
      cases e with
      | normal => obtain ⟨κ', h', σ', k, i', p', e'⟩ := q; exact ihy sy h2 K E κ' h' w' σ' a' i' p' e' k
      | _ => exact q
    · cases hc
  | cond c x y ihx ihy =>
    intro s hc K E κ h w σ a hi hp ev hv
    simp only [comp] at hc
    split at hc
    · rename_i oc sx sy h0 h1 h2
      cases hc
      have rc := opd_rep hp h0
      simp only [vc] at hv
      split at hv
      · rename_i t ht
        have mark : σ.mark oc t = σ := by
          cases oc with
          | t j => exact Fr.put_same ht
          | _ => rfl
        rw [ht] at rc
        generalize hv' : a.eval c = v at rc
        cases rc
        refine wp_cond hv' ?_
        cases t with
        | true => exact ihx sx h1 K E κ h w _ a hi hp ev (mark ▸ hv.1 rfl)
        | false => exact ihy sy h2 K E κ h w _ a hi hp ev (mark ▸ hv.2 rfl)
      · exact hv.elim
    · cases hc
  | block id x ih =>
    intro s hc K E κ h w σ a hi hp ev hv
    simp only [comp, Option.map_eq_some_iff] at hc
    obtain ⟨sx, h1, rfl⟩ := hc
    refine wp_block (wp_mono (ih sx h1 _ E κ h w σ a hi hp ev hv) fun e a' w' q => ?_)
    cases e with
    | exit i =>
      obtain ⟨κ', h', σ', k, r⟩ := q
      simp only at k
      simp only [Exit.inBlock]
      by_cases e : i = id
      · rw [if_pos e] at k ⊢; exact ⟨κ', h', σ', k, r⟩
      · rw [if_neg e] at k ⊢; exact ⟨κ', h', σ', k, r⟩
    | _ => exact q
  | loop x ih =>
    intro s hc K E κ h w σ a hi hp ev hv
    simp only [comp, Option.map_eq_some_iff] at hc
    obtain ⟨sx, h1, rfl⟩ := hc
    obtain ⟨X, F, H, μ, I, x0, a1, a2, a3, a4⟩ := hv
    refine wp_loopX (X := X) (fun x a w => I x ∧ ∃ κ, Inv κ (H x) w ∧ Pre κ w (F x) n a ∧ Ev κ0 h0 w0 κ (H x) w) μ x0 ⟨a1, κ, hi.sub a3, hp.le a2, ev.sub a3⟩ ?_
    rintro x a w ⟨hx, κ, hi, hp, ev⟩
    refine wp_mono (ih sx h1 _ E κ (H x) w (F x) a hi hp ev (a4 x hx)) fun e a' w' q => ?_
    cases e with
    | normal =>
      obtain ⟨κ', h', σ', ⟨x', k1, k2, k3, k4⟩, i', p', e'⟩ := q
      exact ⟨x', ⟨k1, κ', i'.sub k3, p'.le k2, e'.sub k3⟩, k4⟩
    | _ => exact q
  | exit id => intro s hc K E κ h w σ a hi hp ev hv; cases hc; exact wp_exit ⟨κ, h, σ, hv, hi, hp, ev⟩
  | ret => intro s hc K E κ h w σ a hi hp ev hv; cases hc; exact wp_ret ⟨κ, h, σ, hv, hi, hp, ev⟩
  | _ => intro s hc; simp [comp] at hc

/-! ### Results, arguments -/
inductive ResI where
  | tmp (t : Nat)
  | cell (a : Nat) (k : Option Nat)
def resI (P : Program) : List ResultVar → Option (List ResI)
  | [] => some []
  | .tmp t :: l => (resI P l).map (.tmp t :: ·)
  | .cell a t :: l => match shapeOf P t, resI P l with
    | some k, some r => some (.cell a k :: r)
    | _, _ => none
def evRes (σ : Fr) (h : AHeap) : List ResI → Option (List D)
  | [] => some []
  | .tmp t :: l => (evRes σ h l).map (σ.env t :: ·)
  | .cell a k :: l => match loadD h k (σ.env a), evRes σ h l with
    | some d, some ds => some (d :: ds)
    | _, _ => none
def tup : List D → D
  | [d] => d
  | ds => .tuple ds

def argE (k : Nat) : List D → Nat → D
  | [], _ => .undef
  | d :: ds, i => if i = k then d else argE (k + 1) ds i
def argFr (args : List D) : Fr := { env := argE 0 args, defs := [] }

theorem argE_get : ∀ (args : List D) (k i : Nat), argE k args i = if k ≤ i then args.getD (i - k) .undef else .undef
  | [], k, i => by simp [argE]
  | d :: ds, k, i => by
    simp only [argE]
    rw [argE_get ds (k + 1) i]
    by_cases e : i = k
    · subst e; simp
    · rw [if_neg e]
      by_cases e1 : k ≤ i
      · rw [if_pos e1, if_pos (by omega)]
        have : i - k = (i - (k + 1)) + 1 := by omega
        rw [this]
        simp
      · rw [if_neg e1, if_neg (by omega)]

def retK (rs : List ResI) (R : AOut → AHeap → Prop) (e : Ex) (σ : Fr) (h : AHeap) : Prop :=
  match e with
  | .exit _ => False
  | _ => σ.defs = [] ∧ ∃ ds, evRes σ h rs = some ds ∧
      ((∃ h', h'.sub h ∧ R (.ret (tup ds)) h') ∨ (∃ h', h'.sub (frzL h ds) ∧ R (.ret (tup (ds.map (plain h)))) h'))
def panK (R : AOut → AHeap → Prop) (ds : List DDef) (d : D) (h : AHeap) : Prop := ds = [] ∧ ∃ h', h'.sub h ∧ R (.panic d) h'

def resF (tmps : Array Value) (x : ResultVar) : Sem Value :=
  match x with
  | .tmp t => pure (tmps.getD t undef)
  | .cell a t => do loadVar t (← asAddr (tmps.getD a undef))
theorem results_eq (fn : Func) (tmps : Array Value) : results fn tmps = (do let vs ← fn.results.mapM (resF tmps); pure (if h : vs.size = 1 then vs[0] else .tuple vs)) := rfl

theorem evRes_sound [Globs] (hi : Inv κ h w) (hp : Pre κ w σ n a) : ∀ (l : List ResultVar) (rs : List ResI) (ds : List D), resI P l = some rs → evRes σ h rs = some ds →
    ∃ vs : List Value, (l.mapM (resF a.tmps)).run P w = .ok vs w ∧ RepL κ w vs ds
  | [], rs, ds, h1, h2 => by
    simp [resI] at h1
    subst h1
    simp [evRes] at h2
    subst h2
    exact ⟨[], by simp, .nil⟩
  | .tmp t :: l, rs, ds, h1, h2 => by
    simp only [resI, Option.map_eq_some_iff] at h1
    obtain ⟨rs', h3, rfl⟩ := h1
    simp only [evRes, Option.map_eq_some_iff] at h2
    obtain ⟨ds', h4, rfl⟩ := h2
    obtain ⟨vs, e, r⟩ := evRes_sound hi hp l rs' ds' h3 h4
    exact ⟨a.tmps.getD t undef :: vs, by simp only [List.mapM_cons, resF, Sem.run_bind, Sem.run_pure, Result.andThen, e], .cons (hp.env t) r⟩
  | .cell x t :: l, rs, ds, h1, h2 => by
    simp only [resI] at h1
    split at h1
    · rename_i k rs' h3 h4
      cases h1
      simp only [evRes] at h2
      split at h2
      · rename_i d ds' h5 h6
        cases h2
        obtain ⟨vs, e, r⟩ := evRes_sound hi hp l rs' ds' h4 h6
        obtain ⟨v, g1, g2⟩ := loadD_sound (P := P) hi h3 (hp.env x) h5
        refine ⟨v :: vs, ?_, .cons g2 r⟩
        have g1' : (resF a.tmps (.cell x t)).run P w = .ok v w := by
          simp only [resF]
          generalize a.tmps.getD x undef = u at g1 ⊢
          unfold Instr.loadAt at g1
          cases u <;> first | (simp [Instr.sureAddr, Result.andThen] at g1; done) | skip
          rename_i o
          cases o with
          | none => simp [Instr.sureAddr, Result.andThen] at g1
          | some ad => simpa [Instr.sureAddr, asAddr] using g1
        simp only [List.mapM_cons, Sem.run_bind, g1', Sem.run_pure, Result.andThen, e]
      · cases h2
    · cases h1

theorem rep_tup {vs : List Value} {ds : List D} (r : RepL κ w vs ds) : Rep κ w (if h : vs.toArray.size = 1 then vs.toArray[0] else .tuple vs.toArray) (tup ds) := by
  cases r with
  | nil => exact .tuple rfl fun i d e => by simp at e
  | cons r t =>
    cases t with
    | nil => exact r
    | cons r2 t =>
      rw [dif_neg (by simp)]
      exact (RepL.cons r (.cons r2 t)).tuple

theorem res_sound [Globs] {fn : Func} {rs : List ResI} {ds : List D} (hi : Inv κ h w) (hp : Pre κ w σ n a) (hr : resI P fn.results.toList = some rs) (he : evRes σ h rs = some ds) :
    ∃ vs : List Value, (results fn a.tmps).run P w = .ok (if h : vs.toArray.size = 1 then vs.toArray[0] else .tuple vs.toArray) w ∧ RepL κ w vs ds := by
  obtain ⟨vs, e, r⟩ := evRes_sound hi hp _ _ _ hr he
  refine ⟨vs, ?_, r⟩
  rw [results_eq, Array.mapM_eq_mapM_toList]
  simp only [Sem.run_bind, map_eq_pure_bind, e, Result.andThen, Sem.run_pure]

/-- **A function's contract**, from what its code asks. -/
theorem ACalls.of_vc [Globs] (hT : T.ok P) {f : FuncId} {fn : Func} {c : Code} {s : Stm} {pl : Plan} {rs : List ResI} {args : List D} {R : AOut → AHeap → Prop} (hf : P.funcs[f]? = some fn) (hb : fn.body = some c) (hcal : callable P f = true) (hc : comp P fn.ntmps pl c = some s) (hr : resI P fn.results.toList = some rs)
    (hn : args.length ≤ fn.ntmps) (hv : vc T s (retK rs R) (panK R) (argFr args) h) : ACalls P f args h R := by
  refine ⟨hcal, fun κ w vs hi hrep => calls_of_wp hf hb ?_⟩
  have hlen := hrep.length
  have hsz : vs.size = args.length := by simpa using hlen
  have hp : Pre κ w (argFr args) fn.ntmps { tmps := vs ++ Array.replicate (fn.ntmps - vs.size) undef, defers := [] } := by
    refine ⟨by simp; omega, fun i => ?_, .nil, hi.glob⟩
    simp only [argFr]
    rw [argE_get, if_pos (by omega), Nat.sub_zero]
    by_cases hi' : i < args.length
    · obtain ⟨v, e, r⟩ := hrep.get i args[i] (by simp [hi'])
      have e' : vs[i]? = some v := by simpa using e
      have e2 : (vs ++ Array.replicate (fn.ntmps - vs.size) undef)[i]? = some v := by
        rw [Array.getElem?_append_left (by omega)]; exact e'
      rw [Array.getD_eq_getD_getElem?, e2]
      simpa [hi'] using r
    · have : args.getD i .undef = .undef := by simp [List.getD, hi']
      rw [this]; exact .undef _
  refine wp_mono (vc_sound hT c s hc _ _ κ h w _ _ hi hp (Ev.refl κ h w) hv) fun e a' w' q => ?_
  have ret : ∀ (x : Ex), x ≠ .exit 0 → (∀ i, x ≠ .exit i) → (∃ κ' h' σ', retK rs R x σ' h' ∧ Inv κ' h' w' ∧ Pre κ' w' σ' fn.ntmps a' ∧ Ev κ h w κ' h' w') → a'.defers = [] ∧ ∃ v, (results fn a'.tmps).run P w' = .ok v w' ∧ (∃ o h' κ', R o h' ∧ OutRel κ' w' o (.returned v) ∧ Inv κ' h' w' ∧ Ev κ h w κ' h' w') := fun x _ hx q => by
    obtain ⟨κ', h', σ', k, i', p', e'⟩ := q
    have k' : σ'.defs = [] ∧ ∃ ds, evRes σ' h' rs = some ds ∧ ((∃ h'', h''.sub h' ∧ R (.ret (tup ds)) h'') ∨ (∃ h'', h''.sub (frzL h' ds) ∧ R (.ret (tup (ds.map (plain h')))) h'')) := by
      cases x with
      | exit i => exact absurd rfl (hx i)
      | _ => exact k
    obtain ⟨k1, ds, k2, k3⟩ := k'
    have hd : a'.defers = [] := by
      have := p'.defs
      rw [k1] at this
      generalize a'.defers = dd at this
      cases this
      rfl
    obtain ⟨us, g1, g2⟩ := res_sound (P := P) i' p' hr k2
    refine ⟨hd, _, g1, ?_⟩
    rcases k3 with ⟨h'', s1, s2⟩ | ⟨h'', s1, s2⟩
    · exact ⟨_, h'', κ', s2, .ret (rep_tup g2), i'.sub s1, e'.sub s1⟩
    · obtain ⟨κ'', i2, e2, r2⟩ := args_plain i' g2
      exact ⟨_, h'', κ'', s2, .ret (rep_tup r2), i2.sub s1, (e'.trans e2).sub s1⟩
  cases e with
  | normal => exact ret .normal (by simp) (by simp) q
  | ret => exact ret .ret (by simp) (by simp) q
  | exit id => obtain ⟨κ', h', σ', k, _⟩ := q; exact k.elim
  | panic chain =>
    obtain ⟨κ', h', d, v, ds, rfl, ⟨k1, h'', k2, k3⟩, r, dr, i', e'⟩ := q
    subst k1
    have hd : a'.defers = [] := by
      generalize a'.defers = dd at dr
      cases dr
      rfl
    exact ⟨hd, .panic d, h'', κ', k3, .panic r, i'.sub k2, e'.sub k2⟩
  | goto l => exact q.elim
  | outgrown => exact q.elim

/-- A function of the program, as a statement: with its results, and how many slots it has. -/
def stmOf [Globs] (P : Program) (f : FuncId) (pl : Plan) : Option (Stm × List ResI × Nat) :=
  match P.funcs[f]? with
  | none => none
  | some fn => match fn.body with
    | none => none
    | some c => match callable P f, comp P fn.ntmps pl c, resI P fn.results.toList with
      | true, some s, some rs => some (s, rs, fn.ntmps)
      | _, _, _ => none

theorem ACalls.of_stm [Globs] (hT : T.ok P) {f : FuncId} {s : Stm} {rs : List ResI} {m : Nat} {pl : Plan} {args : List D} {R : AOut → AHeap → Prop} (hs : stmOf P f pl = some (s, rs, m)) (hn : args.length ≤ m) (hv : vc T s (retK rs R) (panK R) (argFr args) h) : ACalls P f args h R := by
  unfold stmOf at hs
  split at hs
  · cases hs
  · rename_i fn hf
    split at hs
    · cases hs
    · rename_i c hb
      split at hs
      · rename_i s' rs' h1 h2 h3
        cases hs
        exact ACalls.of_vc hT hf hb h1 h2 h3 hn hv
      · cases hs
end Go.Proofs.YthpgepillaeldaaDoor.Zz
