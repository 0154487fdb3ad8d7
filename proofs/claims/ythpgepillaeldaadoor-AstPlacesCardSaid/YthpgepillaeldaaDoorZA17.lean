/- Functions that put calls off, or range over functions; tables of such. -/
import Derived.Test.YthpgepillaeldaaDoorZG0
import Derived.Test.YthpgepillaeldaaDoorZA13
set_option linter.unnecessarySimpa false
set_option linter.unusedVariables false
set_option linter.unusedSimpArgs false
namespace Go.Proofs.YthpgepillaeldaaDoor.Zz
variable {P : Program} {T : Tab} {κ : Kap} {h : AHeap} {w : World} {σ : Fr} {n : Nat} {a : Act}

/-- How a frame goes: it answers; or it passes a panic up. -/
inductive MRel (κ : Kap) (w : World) : Option D → FrameMode → Prop
  | ret : MRel κ w none .returning
  | pan {v : Value} {d : D} (r : Rep κ w v d) : MRel κ w (some d) (.panicking [{ v, recovered := false }])
theorem MRel.mono {κ κ' : Kap} {w w' : World} {u : Option D} {m : FrameMode} (r : MRel κ w u m) (le : Le κ w κ' w') : MRel κ' w' u m := by
  cases r with
  | ret => exact .ret
  | pan r => exact .pan (r.mono le)
/-- A call that was put off. -/
def DCallsAt [Globs] (P : Program) (κ : Kap) (w : World) (k : FuncId) (args : List D) (u : Option D) (h : AHeap) (F : Option D → AHeap → Prop) : Prop :=
  callable P k = true ∧ ∀ (vs : Array Value) (m : FrameMode), Inv κ h w → RepL κ w vs.toList args → MRel κ w u m →
    CallsDIn (FW none) 0 P k vs m w fun e m' w' => ∃ v u' h' κ', e = .returned v ∧ F u' h' ∧ MRel κ' w' u' (settle m') ∧ Inv κ' h' w' ∧ Ev κ h w κ' h' w'
abbrev DTab := FuncId → List D → Option D → AHeap → (Option D → AHeap → Prop) → Prop
def DTab.none : DTab := fun _ _ _ _ _ => False
def DTab.okY [Globs] (P : Program) (κ : Kap) (w : World) (dc : DTab) : Prop := ∀ k args u h F, dc k args u h F → ∀ κ' w', Le κ w κ' w' → DCallsAt P κ' w' k args u h F
theorem DTab.none_ok [Globs] : DTab.none.okY P κ w := fun _ _ _ _ _ x => x.elim
/-- The calls that were put off, one behind the other. -/
def leav (dc : DTab) : List DDef → Option D → AHeap → (Option D → AHeap → Prop) → Prop
  | [], u, h, F => F u h
  | d :: ds, u, h, F => match d.fn with
    | .yield rd => h.f rd = some .dfr ∧ leav dc ds u (h.del rd) F
    | .func k => dc k (d.args ++ d.cap) u h (fun u' h' => leav dc ds u' h' F)
    | _ => False
/-- What a body asks at its end. -/
def finD (rs : List ResI) (R : AOut → AHeap → Prop) (σ : Fr) (u : Option D) (h : AHeap) : Prop :=
  match u with
  | none => ∃ ds, evRes σ h rs = some ds ∧ ((∃ h', h'.sub h ∧ R (.ret (tup ds)) h') ∨ (∃ h', h'.sub (frzL h ds) ∧ R (.ret (tup (ds.map (plain h)))) h'))
  | some d => ∃ h', h'.sub h ∧ R (.panic d) h'
def retD (dc : DTab) (rs : List ResI) (R : AOut → AHeap → Prop) (e : Ex) (σ : Fr) (h : AHeap) : Prop :=
  match e with
  | .exit _ => False
  | _ => leav dc σ.defs none h (finD rs R σ)
def panD (dc : DTab) (rs : List ResI) (R : AOut → AHeap → Prop) (σ : Fr) (d : D) (h : AHeap) : Prop := leav dc σ.defs (some d) h (finD rs R σ)

theorem evRes_defs {ds : List DDef} : ∀ (rs : List ResI), evRes { σ with defs := ds } h rs = evRes σ h rs
  | [] => rfl
  | .tmp t :: l => by simp only [evRes, evRes_defs l]
  | .cell x k :: l => by simp only [evRes, evRes_defs l]

theorem leaves_sound [Globs] {dc : DTab} {fn : Func} {rs : List ResI} {R : AOut → AHeap → Prop} {σ : Fr} {tmps : Array Value} {κ0 : Kap} {h0 : AHeap} {w0 : World} (hi0 : Inv κ0 h0 w0) (hdc : dc.okY P κ0 w0) (hr : resI P fn.results.toList = some rs) :
    ∀ (ds : List DDef) (dv : List Deferred) (u : Option D) (m : FrameMode) (κ : Kap) (h : AHeap) (w : World), leav dc ds u h (finD rs R σ) → DefsRep κ w dv ds → Inv κ h w → MRel κ w u m → Ev κ0 h0 w0 κ h w → (∀ i, Rep κ w (tmps.getD i undef) (σ.env i)) →
      LeavesInM (FW none) 0 P fn tmps (fun e w' => ∃ o h' κ', R o h' ∧ OutRel κ' w' o e ∧ Inv κ' h' w' ∧ Ev κ0 h0 w0 κ' h' w') dv m w
  | [], dv, u, m, κ, h, w, hl, hd, hi, hm, ev, henv => by
    cases hd
    simp only [leav, finD] at hl
    cases hm with
    | ret =>
      obtain ⟨ds, k2, k3⟩ := hl
      have hp : Pre κ w { σ with defs := [] } tmps.size { tmps := tmps, defers := [] } := ⟨rfl, henv, .nil, hi.glob⟩
      obtain ⟨us, g1, g2⟩ := res_sound (P := P) hi hp hr (by rw [evRes_defs]; exact k2)
      refine ⟨_, g1, ?_⟩
      rcases k3 with ⟨h'', s1, s2⟩ | ⟨h'', s1, s2⟩
      · exact ⟨_, h'', κ, s2, .ret (rep_tup g2), hi.sub s1, ev.sub s1⟩
      · obtain ⟨κ'', i2, e2, r2⟩ := args_plain hi g2
        exact ⟨_, h'', κ'', s2, .ret (rep_tup r2), i2.sub s1, (ev.trans e2).sub s1⟩
    | pan r =>
      obtain ⟨h', s1, s2⟩ := hl
      exact ⟨.panic _, h', κ, s2, .panic r, hi.sub s1, ev.sub s1⟩
  | d :: ds, dv, u, m, κ, h, w, hl, hd, hi, hm, ev, henv => by
    cases hd with
    | cons hd1 hds =>
    have hmr : m ≠ .run := by cases hm <;> simp
    refine ⟨hmr, ?_⟩
    cases hd1 with
    | col h1 h2 h3 =>
      rename_i r id p
      simp only [leav] at hl
      obtain ⟨k1, k2⟩ := hl
      obtain ⟨p', q1, q2, q3, q4⟩ := hi.obj id _ k1
      rw [h1] at q1
      cases q1
      subst h3
      obtain ⟨i4, ev4⟩ := hi.putObj (o' := .other) (ob := .deferred none) k1 h1 rfl rfl ⟨q2, q3⟩
      have sub4 : (h.del id).sub (h.set id .other) := fun i o ho => by
        simp only [AHeap.del_f, AHeap.set_f] at ho ⊢
        split at ho
        · cases ho
        · rename_i hne; rw [if_neg hne]; exact ho
      have le4 := ev4.le hi
      exact .inl ⟨_, _, rfl, run_takeDeferred q4, leaves_sound hi0 hdc hr ds _ u m κ _ _ k2 (hds.mono le4) (i4.sub sub4) (hm.mono le4) ((ev.trans ev4).sub sub4) fun i => (henv i).mono le4⟩
    | mk hc ha =>
      rename_i k cap args dcap dargs
      simp only [leav] at hl
      obtain ⟨hcl, hcall⟩ := hdc _ _ _ _ _ hl κ w (ev.le hi0)
      refine .inr ⟨FW_deep, .func k, cap, k, args ++ cap, rfl, ?_, fun _ _ => trivial, ?_⟩
      · simp only [invoke, callFunc_run hcl]
      · refine CallsDIn.mono (hcall (args ++ cap) m hi (by rw [Array.toList_append]; exact ha.append hc) hm) ?_
        rintro e m' w' ⟨v, u', h', κ', rfl, k1, k2, k3, k4⟩
        have le4 := k4.le hi
        exact leaves_sound hi0 hdc hr ds _ u' (settle m') κ' h' w' k1 (hds.mono le4) k3 k2 (ev.trans k4) fun i => (henv i).mono le4

theorem ACallsAt.of_vcD [Globs] (hT : T.okY P κ w) {dc : DTab} (hdc : dc.okY P κ w) {f : FuncId} {fn : Func} {c : Code} {s : Stm} {pl : Plan} {rs : List ResI} {args : List D} {R : AOut → AHeap → Prop} (hf : P.funcs[f]? = some fn) (hb : fn.body = some c) (hcal : callable P f = true) (hc : comp P fn.ntmps pl c = some s) (hr : resI P fn.results.toList = some rs)
    (hn : args.length ≤ fn.ntmps) (hv : vc T s (retD dc rs R) (panD dc rs R) (argFr args) h) : ACallsAt P κ w f args h R := by
  refine ⟨hcal, fun vs hi hrep => callsIn_wide.1 (callsIn_of_wp_marks (F := FW none) (n := 0) hf hb trivial ?_)⟩
  have hp := args_pre hi hrep hn
  have key := vc_sound c s pl hc none (fun _ => rfl) κ h w hT hi _ _ κ h w _ _ hi hp (Ev.refl κ h w) hv
  refine wpIn_mono key fun e a' w' q => ?_
  cases e with
  | normal => obtain ⟨κ', h', σ', k, i', p', e'⟩ := q; exact leaves_sound hi hdc hr _ _ none _ κ' h' w' k p'.defs i' .ret e' p'.env
  | ret => obtain ⟨κ', h', σ', k, i', p', e'⟩ := q; exact leaves_sound hi hdc hr _ _ none _ κ' h' w' k p'.defs i' .ret e' p'.env
  | exit id => obtain ⟨κ', h', σ', k, _⟩ := q; exact k.elim
  | panic chain => obtain ⟨κ', h', d, v, σ', rfl, k, r, p', i', e'⟩ := q; exact leaves_sound hi hdc hr _ _ (some d) _ κ' h' w' k p'.defs i' (.pan r) e' p'.env
  | goto l => exact q.elim
  | outgrown => exact q.elim
theorem ACallsAt.of_stmD [Globs] (hT : T.okY P κ w) {dc : DTab} (hdc : dc.okY P κ w) {f : FuncId} {s : Stm} {rs : List ResI} {m : Nat} {pl : Plan} {args : List D} {R : AOut → AHeap → Prop} (hs : stmOf P f pl = some (s, rs, m)) (hn : args.length ≤ m) (hv : vc T s (retD dc rs R) (panD dc rs R) (argFr args) h) : ACallsAt P κ w f args h R := by
  unfold stmOf at hs
  split at hs
  · cases hs
  · rename_i fn hf
    split at hs
    · cases hs
    · rename_i c hb
      split at hs
      · rename_i s' rs' h1 h2 h3
        cases hs
        exact ACallsAt.of_vcD hT hdc hf hb h1 h2 h3 hn hv
      · cases hs
theorem ACalls.of_stmD [Globs] (hT : T.ok P) {dc : DTab} (hdc : ∀ κ w, dc.okY P κ w) {f : FuncId} {s : Stm} {rs : List ResI} {m : Nat} {pl : Plan} {args : List D} {R : AOut → AHeap → Prop} (hc : callable P f = true) (hs : stmOf P f pl = some (s, rs, m)) (hn : args.length ≤ m) (hv : vc T s (retD dc rs R) (panD dc rs R) (argFr args) h) : ACalls P f args h R :=
  ⟨hc, fun κ w => (ACallsAt.of_stmD (hT.toY κ w) (hdc κ w) hs hn hv).2⟩
theorem retD_ret {dc : DTab} {rs : List ResI} {R : AOut → AHeap → Prop} : retD dc rs R .ret σ h = leav dc σ.defs none h (finD rs R σ) := rfl
theorem retD_normal {dc : DTab} {rs : List ResI} {R : AOut → AHeap → Prop} : retD dc rs R .normal σ h = leav dc σ.defs none h (finD rs R σ) := rfl
theorem leav_nil {dc : DTab} {u : Option D} {F : Option D → AHeap → Prop} : leav dc [] u h F = F u h := rfl
theorem leav_mark {dc : DTab} {rd : Nat} {c xs : List D} {ds : List DDef} {u : Option D} {F : Option D → AHeap → Prop} : leav dc (⟨.yield rd, c, xs⟩ :: ds) u h F = (h.f rd = some .dfr ∧ leav dc ds u (h.del rd) F) := rfl
theorem leav_func {dc : DTab} {k : FuncId} {c xs : List D} {ds : List DDef} {u : Option D} {F : Option D → AHeap → Prop} : leav dc (⟨.func k, c, xs⟩ :: ds) u h F = dc k (xs ++ c) u h (fun u' h' => leav dc ds u' h' F) := rfl

/-! ### Tables -/
def Tab.addY (T : Tab) (l : Nat) (Y : List D → AHeap → (D → AHeap → Prop) → Prop) (hm : YMono Y) : Tab :=
  { T with
    y := fun l' args h K => if l' = l then Y args h K else T.y l' args h K
    ymono := fun l' args h K K' hk => by
      split
      · exact hm args h K K' hk
      · exact T.ymono l' args h K K' hk }
theorem Tab.addY_ok [Globs] (hT : T.okY P κ w) {l : Nat} {Y : List D → AHeap → (D → AHeap → Prop) → Prop} {hm : YMono Y} (hY : ∀ args h K, Y args h K → ∀ κ' w', Le κ w κ' w' → YCalls P κ' w' l args h K) : (T.addY l Y hm).okY P κ w :=
  ⟨hT.q, hT.a, hT.c, fun l' args h K x => by
    simp only [Tab.addY] at x
    split at x
    · rename_i e; subst e; exact hY args h K x
    · exact hT.y l' args h K x, hT.r⟩
def Tab.addR (T : Tab) (f : FuncId) (r : Nat → (List D → AHeap → (D → AHeap → Prop) → Prop) → List D → AHeap → (D → AHeap → Prop) → Prop)
    (rm : ∀ l (Y Y' : List D → AHeap → (D → AHeap → Prop) → Prop) args h (K K' : D → AHeap → Prop), (∀ args h (K K' : D → AHeap → Prop), (∀ d h, K d h → K' d h) → Y args h K → Y' args h K') → (∀ d h, K d h → K' d h) → r l Y args h K → r l Y' args h K') : Tab :=
  { T with
    r := fun g l Y args h K => if g = f then r l Y args h K else T.r g l Y args h K
    rmono := fun g l Y Y' args h K K' hY hk => by
      split
      · exact rm l Y Y' args h K K' hY hk
      · exact T.rmono g l Y Y' args h K K' hY hk }
theorem Tab.addR_ok [Globs] (hT : T.ok P) {f : FuncId} {r : Nat → (List D → AHeap → (D → AHeap → Prop) → Prop) → List D → AHeap → (D → AHeap → Prop) → Prop} {rm}
    (hr : ∀ l Y args h K κ w, YMono Y → (∀ args h K, Y args h K → ∀ κ' w', Le κ w κ' w' → YCalls P κ' w' l args h K) → r l Y args h K → ACallsAt P κ w f args h (AOut.to K fun _ _ => False)) : (T.addR f r rm).ok P :=
  ⟨hT.q, hT.a, hT.c, hT.y, fun g l Y args h K κ w hY hs x => by
    simp only [Tab.addR] at x
    split at x
    · rename_i e; subst e; exact hr l Y args h K κ w hY hs x
    · exact hT.r g l Y args h K κ w hY hs x⟩
/-- The part of the heap that a call has nothing to do with. -/
def frameC (c : List D → AHeap → (D → AHeap → Prop) → Prop) (args : List D) (h : AHeap) (K : D → AHeap → Prop) : Prop :=
  ∃ h1 L, h = AHeap.puts h1 L ∧ (∀ p ∈ L, h1.f p.1 = none) ∧ c args h1 (fun d h' => (∀ p ∈ L, h'.f p.1 = none) → K d (h'.puts L))
theorem frameC_mono {c : List D → AHeap → (D → AHeap → Prop) → Prop} (m : ∀ args h (K K' : D → AHeap → Prop), (∀ d h, K d h → K' d h) → c args h K → c args h K') (args : List D) (h : AHeap) (K K' : D → AHeap → Prop) (hk : ∀ d h, K d h → K' d h) (x : frameC c args h K) : frameC c args h K' := by
  obtain ⟨h1, L, a, b, x⟩ := x
  exact ⟨h1, L, a, b, m _ _ _ _ (fun d h k hL => hk _ _ (k hL)) x⟩
theorem ACallsAt.frame [Globs] {f : FuncId} {args : List D} {h1 : AHeap} {L : List (Nat × AObj)} {K : D → AHeap → Prop} (hL : ∀ p ∈ L, h1.f p.1 = none) (c : ACallsAt P κ w f args h1 fun o h' => ∃ d, o = .ret d ∧ ((∀ p ∈ L, h'.f p.1 = none) → K d (h'.puts L))) :
    ACallsAt P κ w f args (h1.puts L) fun o h' => ∃ d, o = .ret d ∧ K d h' := by
  refine ⟨c.1, fun vs hi hr => ?_⟩
  have sub := puts_sub hL
  refine (c.2 vs (hi.sub sub) hr).mono fun e w' ⟨o, h', κ', ⟨d, e1, k⟩, a2, a3, a4⟩ => ?_
  obtain ⟨f1, f2, f3⟩ := hi.frame sub a3 a4
  have dis : ∀ p ∈ L, h'.f p.1 = none := fun p hp => f3 p.1 (by
    obtain ⟨o', ho'⟩ := assoc_mem hp
    rw [puts_f, ho']; simp) (hL p hp)
  rw [puts_union hL dis] at f1 f2
  exact ⟨o, _, κ', ⟨d, e1, k dis⟩, a2, f1, f2⟩
theorem frameC_ok [Globs] {c : List D → AHeap → (D → AHeap → Prop) → Prop} {f : FuncId} (hc : ∀ args h K, c args h K → ACallsAt P κ w f args h fun o h' => ∃ d, o = .ret d ∧ K d h') (args : List D) (h : AHeap) (K : D → AHeap → Prop) (x : frameC c args h K) :
    ACallsAt P κ w f args h fun o h' => ∃ d, o = .ret d ∧ K d h' := by
  obtain ⟨h1, L, rfl, b, x⟩ := x
  exact ACallsAt.frame b (hc _ _ _ x)
theorem Tab.addW_okY [Globs] (hT : T.okY P κ w) {f : FuncId} {c : List D → AHeap → (D → AHeap → Prop) → Prop} {m : ∀ args h (K K' : D → AHeap → Prop), (∀ d h, K d h → K' d h) → c args h K → c args h K'}
    (hc : ∀ args h K, c args h K → ∀ κ' w', Le κ w κ' w' → ACallsAt P κ' w' f args h fun o h' => ∃ d, o = .ret d ∧ K d h') : (T.addW f c m).okY P κ w :=
  ⟨hT.q, hT.a, fun g args h K E x κ' w' le => by
    simp only [Tab.addW] at x
    split at x
    · rename_i e
      subst e
      obtain ⟨h1, h2⟩ := hc args h K x κ' w' le
      exact ⟨h1, fun vs hi hr => (h2 vs hi hr).mono fun e w' ⟨o, h', κ', ⟨d, a1, a2⟩, b⟩ => ⟨o, h', κ', by subst a1; exact a2, b⟩⟩
    · exact hT.c g args h K E x κ' w' le, hT.y, hT.r⟩
theorem i_yield {l : Nat} {first cap args : List D} {K E : D → AHeap → Prop} : vcI T (.call (.func (.yield l) first cap) args) h K E = ∃ h1 L, frzL h (first ++ args) = AHeap.puts h1 L ∧ (∀ p ∈ L, h1.f p.1 = none) ∧ T.y l ((first ++ args).map (plain h)) h1 (fun d h' => (∀ p ∈ L, h'.f p.1 = none) → K d (h'.puts L)) := rfl
theorem ACallsAt.of_K [Globs] (hT : T.okY P κ w) {f : FuncId} {s : Stm} {rs : List ResI} {m : Nat} {pl : Plan} {args : List D} {K : D → AHeap → Prop} (hs : stmOf P f pl = some (s, rs, m)) (hn : args.length ≤ m)
    (hv : vc T s (todo T (retS rs K) (fun _ _ _ => False) []) (fun _ _ _ => False) (argFr args) h) : ACallsAt P κ w f args h fun o h' => ∃ d, o = .ret d ∧ K d h' := by
  refine ACallsAt.of_stm hT hs hn (vc_mono (fun e σ h k => ?_) (fun ds d h k => k.elim) hv)
  cases e with
  | exit i => exact k
  | _ => obtain ⟨a, ds, b, c⟩ := k; exact ⟨a, ds, b, .inl ⟨h, AHeap.sub_refl h, _, rfl, c⟩⟩
/-- What a body asks at its end; of the heap, a part. -/
def retU (rs : List ResI) (K : D → AHeap → Prop) (e : Ex) (σ : Fr) (h : AHeap) : Prop :=
  match e with
  | .exit _ => False
  | _ => σ.defs = [] ∧ ∃ ds, evRes σ h rs = some ds ∧ ∃ h', h'.sub h ∧ K (tup ds) h'
theorem retU_ret {rs : List ResI} {K : D → AHeap → Prop} : retU rs K .ret σ h = (σ.defs = [] ∧ ∃ ds, evRes σ h rs = some ds ∧ ∃ h', h'.sub h ∧ K (tup ds) h') := rfl
theorem retU_normal {rs : List ResI} {K : D → AHeap → Prop} : retU rs K .normal σ h = (σ.defs = [] ∧ ∃ ds, evRes σ h rs = some ds ∧ ∃ h', h'.sub h ∧ K (tup ds) h') := rfl
theorem ACallsAt.of_U [Globs] (hT : T.okY P κ w) {f : FuncId} {s : Stm} {rs : List ResI} {m : Nat} {pl : Plan} {args : List D} {K : D → AHeap → Prop} (hs : stmOf P f pl = some (s, rs, m)) (hn : args.length ≤ m)
    (hv : vc T s (todo T (retU rs K) (fun _ _ _ => False) []) (fun _ _ _ => False) (argFr args) h) : ACallsAt P κ w f args h fun o h' => ∃ d, o = .ret d ∧ K d h' := by
  refine ACallsAt.of_stm hT hs hn (vc_mono (fun e σ h k => ?_) (fun ds d h k => k.elim) hv)
  cases e with
  | exit i => exact k
  | _ => obtain ⟨a, ds, b, h', c, d⟩ := k; exact ⟨a, ds, b, .inl ⟨h', c, _, rfl, d⟩⟩
theorem ACalls.of_U [Globs] (hT : T.ok P) {f : FuncId} {s : Stm} {rs : List ResI} {m : Nat} {pl : Plan} {args : List D} {K : D → AHeap → Prop} (hs : stmOf P f pl = some (s, rs, m)) (hn : args.length ≤ m)
    (hv : vc T s (todo T (retU rs K) (fun _ _ _ => False) []) (fun _ _ _ => False) (argFr args) h) : ACalls P f args h fun o h' => ∃ d, o = .ret d ∧ K d h' := by
  refine ACalls.of_stm hT hs hn (vc_mono (fun e σ h k => ?_) (fun ds d h k => k.elim) hv)
  cases e with
  | exit i => exact k
  | _ => obtain ⟨a, ds, b, h', c, d⟩ := k; exact ⟨a, ds, b, .inl ⟨h', c, _, rfl, d⟩⟩
/-! ### Rounds -/
def bodyK (r : Nat) (K2 : D → AHeap → Prop) (e : Ex) (σ : Fr) (h : AHeap) : Prop := roundK r K2 e h
def asgK (T : Tab) (r : Nat) (body : Stm) (K2 : D → AHeap → Prop) (e : Ex) (σ : Fr) (h : AHeap) : Prop :=
  match e with
  | .normal => h.f r = some (.lp (.done .normal)) ∧ vc T body (todo T (bodyK r K2) (fun _ _ _ => False) []) (fun _ _ _ => False) σ (h.set r (.lp .busy))
  | _ => False
/-- What a round asks. -/
def roundY (T : Tab) (r : Nat) (ps : List Nat) (asg body : Stm) (σ : Fr) (args : List D) (h : AHeap) (K2 : D → AHeap → Prop) : Prop :=
  args.length = ps.length ∧ h.f r = some (.lp (.done .normal)) ∧ vc T asg (todo T (asgK T r body K2) (fun _ _ _ => False) []) (fun _ _ _ => False) (σ.params ps args) h
theorem asgK_normal {r : Nat} {body : Stm} {K2 : D → AHeap → Prop} : asgK T r body K2 .normal σ h = (h.f r = some (.lp (.done .normal)) ∧ vc T body (todo T (bodyK r K2) (fun _ _ _ => False) []) (fun _ _ _ => False) σ (h.set r (.lp .busy))) := rfl
theorem bodyK_eq {r : Nat} {K2 : D → AHeap → Prop} {e : Ex} : bodyK r K2 e σ h = (h.f r = some (.lp .busy) ∧ K2 (.bool e.code.isNone) (h.set r (.lp (.done e)))) := rfl
theorem round2 {r p q : Nat} {asg body : Stm} {d e : D} {K2 : D → AHeap → Prop} : roundY T r [p, q] asg body σ [d, e] h K2 = (h.f r = some (.lp (.done .normal)) ∧ vc T asg (todo T (asgK T r body K2) (fun _ _ _ => False) []) (fun _ _ _ => False) ((({ σ with defs := [] } : Fr).put (some p) d).put (some q) e) h) := by
  simp only [roundY, List.length_cons, List.length_nil, true_and, Fr.params, List.zip_cons_cons, List.zip_nil_left, List.foldl_cons, List.foldl_nil]
theorem round1 {r p : Nat} {asg body : Stm} {d : D} {K2 : D → AHeap → Prop} : roundY T r [p] asg body σ [d] h K2 = (h.f r = some (.lp (.done .normal)) ∧ vc T asg (todo T (asgK T r body K2) (fun _ _ _ => False) []) (fun _ _ _ => False) (({ σ with defs := [] } : Fr).put (some p) d) h) := by
  simp only [roundY, List.length_cons, List.length_nil, true_and, Fr.params, List.zip_cons_cons, List.zip_nil_left, List.foldl_cons, List.foldl_nil]
theorem roundY_mono (r : Nat) (ps : List Nat) (asg body : Stm) (σ : Fr) : YMono (roundY T r ps asg body σ) := fun args h K K' hk ⟨x1, x2, x3⟩ => ⟨x1, x2, vc_mono (fun e σ' h' k => by
    cases e with
    | normal => exact ⟨k.1, vc_mono (fun e _ h'' k => ⟨k.1, hk _ _ k.2⟩) (fun _ _ _ k => k) k.2⟩
    | _ => exact k) (fun _ _ _ k => k) x3⟩
theorem rangeK_done {r : Nat} {K : Ex → AHeap → Prop} {e : Ex} (he : h.f r = some (.lp (.done e))) (hk : K e (h.del r)) : rangeK r K h := by
  unfold rangeK
  rw [he]
  exact hk
/-- A range over a function. -/
theorem run_rangeF {K : Ex → Fr → AHeap → Prop} {E : Fr → D → AHeap → Prop} {k : List Item} {g : Opd} {ps : List Nat} {asg body : Stm} {f : FuncId} {first cap : List D} (hg : σ.ev g = .func (.func f) first cap)
    (hv : ∀ l r rd, h.f r = none → h.f rd = none → r ≠ rd →
        T.r f l (roundY T r ps asg body σ) (first ++ [.func (.yield l) [] []] ++ cap) ((h.set rd .dfr).set r (.lp (.done .normal)))
          (fun _ h' => rangeK r (fun e h'' => todo T K E k e { σ with defs := ⟨.yield rd, [], []⟩ :: σ.defs } h'') h')) : vc T (.rangeF g ps asg body) (todo T K E k) E σ h := by
  simp only [vc]
  rw [hg]
  refine fun l r rd a b c => ?_
  have := hv l r rd a b c
  have eq : roundY T r ps asg body σ = (fun args h K2 => args.length = ps.length ∧ h.f r = some (.lp (.done .normal)) ∧
            vc T asg (fun e σ' h' => match e with
              | .normal => h'.f r = some (.lp (.done .normal)) ∧ vc T body (fun e _ h'' => roundK r K2 e h'') (fun _ _ _ => False) σ' (h'.set r (.lp .busy))
              | _ => False) (fun _ _ _ => False) (σ.params ps args) h) := by
    funext args h K2
    unfold roundY
    congr 2
  rw [eq] at this
  exact this
end Go.Proofs.YthpgepillaeldaaDoor.Zz
/- Contracts: trees that are gone over. -/
namespace Go.Proofs.YthpgepillaeldaaDoor.Zz
noncomputable section
set_option linter.unusedVariables false
set_option linter.unusedSimpArgs false
set_option maxRecDepth 20000
def p46r : Plan := ⟨⟨[], [], [], [], [], []⟩, [], [], false⟩
/-- cupel/ast.All (1 parameters, 0 captured) -/
def s46r : Stm :=
  .seq (.ops [⟨.box (.t 0), (some 1), none, false⟩,
     ⟨.mov (.c .nilfunc), (some 2), none, true⟩])
  (.seq (.ops [⟨.mkFunc (.func 76) [] [(.t 1)], (some 3), none, true⟩,
     ⟨.mov (.t 3), (some 2), none, true⟩])
  (.ret))
theorem st46r : stmOf Tryd.prog 46 p46r = some (s46r, [.tmp 2], 4) := by kernel_rfl

def p76r : Plan := ⟨⟨[], [(1, 2)], [], [], [], []⟩, [], [], false⟩
/-- cupel/ast.All$1 (1 parameters, 1 captured) -/
def s76r : Stm :=
  .seq (.ops [⟨.alloc [(.int .i64 0)], (some 3), none, false⟩,
     ⟨.store 1 (.t 3) (.c (.int .i64 0)), none, none, false⟩])
  (.ops [⟨.load (some 5) (.t 1), (some 4), none, false⟩,
    ⟨.mov (.t 0), (some 5), none, true⟩,
    ⟨.call (.f 77) [(.t 4), (.t 3), (.t 5)], (some 6), none, false⟩])
theorem st76r : stmOf Tryd.prog 76 p76r = some (s76r, [], 7) := by kernel_rfl

def p77r : Plan := ⟨⟨[], [(7, 3), (1, 5)], [], [], [], []⟩, [(1, [0, 1, 2, 3, 4, 5, 6])], [], false⟩
/-- cupel/ast.walk (3 parameters, 0 captured) -/
def s77r : Stm :=
  .seq (.ops [⟨.box (.t 0), (some 3), none, false⟩,
     ⟨.mov (.c (.bool false)), (some 6), none, true⟩])
  (.seq (.seq (.opsD [⟨.mov (.t 2), (some 9), none, true⟩,
      ⟨.mov (.t 1), (some 10), none, true⟩,
      ⟨.nilCheck (.t 10), (some 11), none, true⟩,
      ⟨.load none (.t 11), (some 12), none, false⟩,
      ⟨.load (some 5) (.t 3), (some 13), none, false⟩,
      ⟨.call (.t 9) [(.t 12), (.t 13)], (some 14), none, false⟩,
      ⟨.un .not (.t 14), (some 15), none, true⟩])
   (.cond (.t 15)
    (.seq (.ops [⟨.mov (.c (.bool false)), (some 6), none, true⟩])
     (.ret))
    (.skip)))
  (.seq (.seq (.ops [⟨.fieldAddr 4 (.t 3), (some 16), none, true⟩,
      ⟨.load none (.t 16), (some 17), none, false⟩,
      ⟨.len .sl (.t 17), (some 18), none, false⟩,
      ⟨.mov (.c (.int .i64 0)), (some 19), none, true⟩])
   (.block 0 (.loop (.seq (.ops [⟨.bin .lss (.t 19) (.t 18), (some 20), none, true⟩])
     (.seq (.cond (.t 20)
       (.skip)
       (.exit 0))
     (.seq (.block 1 (.seq (.ops [⟨.indexAddrS 5 (.t 17) (.t 19), (some 21), none, false⟩,
          ⟨.load (some 5) (.t 21), (some 22), none, false⟩,
          ⟨.alloc [(.int .i64 0), (.int .i64 0), (.str []), (.int .i64 0), .nilsl], (some 8), none, false⟩,
          ⟨.store 5 (.t 8) (.t 22), none, none, false⟩])
       (.seq (.ops [⟨.mov (.t 1), (some 23), none, true⟩,
          ⟨.nilCheck (.t 23), (some 24), none, true⟩,
          ⟨.load none (.t 24), (some 25), none, false⟩,
          ⟨.bin .add (.t 25) (.c (.int .i64 1)), (some 26), none, true⟩,
          ⟨.nilCheck (.t 23), (some 27), none, true⟩,
          ⟨.store 1 (.t 27) (.t 26), none, none, false⟩])
       (.seq (.ops [⟨.load (some 5) (.t 8), (some 28), none, false⟩,
          ⟨.mov (.t 1), (some 29), none, true⟩,
          ⟨.mov (.t 2), (some 30), none, true⟩,
          ⟨.call (.f 77) [(.t 28), (.t 29), (.t 30)], (some 31), none, false⟩,
          ⟨.un .not (.t 31), (some 32), none, true⟩])
       (.cond (.t 32)
        (.seq (.ops [⟨.mov (.c (.bool false)), (some 6), none, true⟩])
         (.ret))
        (.skip))))))
     (.ops [⟨.bin .add (.t 19) (.c (.int .i64 1)), (some 33), none, true⟩,
       ⟨.mov (.t 33), (some 19), none, true⟩])))))))
  (.seq (.ops [⟨.mov (.c (.bool true)), (some 6), none, true⟩])
  (.ret))))
theorem st77r : stmOf Tryd.prog 77 p77r = some (s77r, [.tmp 6], 34) := by kernel_rfl

/-- What rounds do with nodes, one behind the other; the last one's place. -/
def YI (Y : List D → AHeap → (D → AHeap → Prop) → Prop) : List Nd → Int → AHeap → (Bool → AHeap → Int → Prop) → Prop
  | [], a, h, K => K true h (a - 1)
  | x :: l, a, h, K => Y [.int .i64 a, .agg x.enc] h (fun d h' => ∃ b, d = .bool b ∧ (b = true → YI Y l (a + 1) h' K) ∧ (b = false → K false h' a))
theorem YI_mono {Y Y' : List D → AHeap → (D → AHeap → Prop) → Prop} (hY : ∀ args h (K K' : D → AHeap → Prop), (∀ d h, K d h → K' d h) → Y args h K → Y' args h K') : ∀ (l : List Nd) (a : Int) (h : AHeap) (K K' : Bool → AHeap → Int → Prop), (∀ b h a, K b h a → K' b h a) → YI Y l a h K → YI Y' l a h K'
  | [], a, h, K, K', hk, x => hk _ _ _ x
  | x :: l, a, h, K, K', hk, y => hY _ _ _ _ (fun d h' ⟨b, e1, e2, e3⟩ => ⟨b, e1, fun e => YI_mono hY l _ _ K K' hk (e2 e), fun e => hk _ _ _ (e3 e)⟩) y
theorem YI_monoK {Y : List D → AHeap → (D → AHeap → Prop) → Prop} (hY : YMono Y) (l : List Nd) (a : Int) (h : AHeap) (K K' : Bool → AHeap → Int → Prop) (hk : ∀ b h a, K b h a → K' b h a) (x : YI Y l a h K) : YI Y l a h K' :=
  YI_mono (Y := Y) (Y' := Y) (fun args h K K' hk x => hY args h K K' hk x) l a h K K' hk x
theorem YI_app {Y : List D → AHeap → (D → AHeap → Prop) → Prop} (hY : YMono Y) : ∀ (l r : List Nd) (a : Int) (h : AHeap) (K : Bool → AHeap → Int → Prop), YI Y (l ++ r) a h K → YI Y l a h (fun b h' a' => (b = true → YI Y r (a' + 1) h' K) ∧ (b = false → K false h' a'))
  | [], r, a, h, K, x => by
    show (true = true → YI Y r (a - 1 + 1) h K) ∧ (true = false → K false h (a - 1))
    rw [show a - 1 + 1 = a by omega]
    exact And.intro (fun _ => x) (fun e => Bool.noConfusion e)
  | y :: l, r, a, h, K, x => by
    refine hY _ _ _ _ (fun d h' k => ?_) x
    obtain ⟨b, e1, e2, e3⟩ := k
    refine ⟨b, e1, fun e => YI_app hY l r _ _ K (e2 e), fun e => ?_⟩
    exact And.intro (fun e' => Bool.noConfusion e') (fun _ => e3 e)
/-- The last one's place, told. -/
theorem YI_idx {Y : List D → AHeap → (D → AHeap → Prop) → Prop} (hY : YMono Y) : ∀ (l : List Nd) (a : Int) (h : AHeap) (K : Bool → AHeap → Int → Prop), YI Y l a h K → YI Y l a h (fun b h' a' => K b h' a' ∧ (b = true → a' = a + l.length - 1))
  | [], a, h, K, x => by
    show K true h (a - 1) ∧ (true = true → a - 1 = a + (([] : List Nd).length : Int) - 1)
    exact ⟨x, fun _ => by simp⟩
  | y :: l, a, h, K, x => by
    refine hY _ _ _ _ (fun d h' k => ?_) x
    obtain ⟨b, e1, e2, e3⟩ := k
    refine ⟨b, e1, fun e => YI_monoK hY l _ _ _ _ (fun b h a k => ⟨k.1, fun e => ?_⟩) (YI_idx hY l _ _ K (e2 e)), fun e => ⟨e3 e, fun e => by cases e⟩⟩
    rw [k.2 e]
    simp only [List.length_cons]
    omega
/-- Node by node. -/
theorem YI_ind {Y : List D → AHeap → (D → AHeap → Prop) → Prop} (hY : YMono Y) {K : Bool → AHeap → Int → Prop} (I : Nat → AHeap → Prop) (L : List Nd)
    (step : ∀ (i : Nat) (x : Nd) (hh : AHeap), L[i]? = some x → I i hh → Y [.int .i64 (i : Int), .agg x.enc] hh (fun d h' => ∃ b, d = .bool b ∧ (b = true → I (i + 1) h') ∧ (b = false → K false h' i)))
    (fin : ∀ hh, I L.length hh → K true hh ((L.length : Int) - 1)) : ∀ (l : List Nd) (i : Nat) (h : AHeap), L.drop i = l → i ≤ L.length → I i h → YI Y l (i : Int) h K
  | [], i, h, e, hi, hI => by
    have : i = L.length := by have := congrArg List.length e; simp at this; omega
    subst this
    exact fin h hI
  | x :: l, i, h, e, hi, hI => by
    have hx : L[i]? = some x := by
      have := congrArg (fun l : List Nd => l[0]?) e
      simpa [List.getElem?_drop] using this
    have hlt : i < L.length := (List.getElem?_eq_some_iff.1 hx).1
    have hd : L.drop (i + 1) = l := by
      rw [List.drop_eq_getElem_cons hlt] at e
      exact (List.cons.inj e).2
    refine hY _ _ _ _ (fun d h' k => ?_) (step i x h hx hI)
    obtain ⟨b, e1, e2, e3⟩ := k
    refine ⟨b, e1, fun e => ?_, e3⟩
    have := YI_ind hY I L step fin l (i + 1) h' hd (by omega) (e2 e)
    rw [show ((i + 1 : Nat) : Int) = (i : Int) + 1 by omega] at this
    exact this
/-- A walk through a tree. -/
def cW (l : Nat) (Y : List D → AHeap → (D → AHeap → Prop) → Prop) (f : Nat) (args : List D) (h : AHeap) (K : D → AHeap → Prop) : Prop :=
  ∃ (n : Nd) (a : Int) (id : Nat) (h0 : AHeap), args = [.agg (Nd.enc n), .ptr id 1 0, .func (.yield l) [] []] ∧ h = h0.set id (.cells [.int .i64 a]) ∧ h0.f id = none ∧ n.cnt < f ∧ 0 ≤ a ∧ a + n.cnt ≤ 1000000000 ∧
    YI Y (listF n) a h0 (fun b h' a' => h'.f id = none → K (.bool b) (h'.set id (.cells [.int .i64 a'])))
theorem cW_mono {l : Nat} {Y : List D → AHeap → (D → AHeap → Prop) → Prop} {f : Nat} (hY : YMono Y) (args : List D) (h : AHeap) (K K' : D → AHeap → Prop) (hk : ∀ d h, K d h → K' d h) (x : cW l Y f args h K) : cW l Y f args h K' := by
  obtain ⟨n, a, id, h0, e1, e2, e3, e4, e5, e6, y⟩ := x
  exact ⟨n, a, id, h0, e1, e2, e3, e4, e5, e6, YI_monoK hY _ _ _ _ _ (fun b h a k e => hk _ _ (k e)) y⟩
def tbW (l : Nat) (Y : List D → AHeap → (D → AHeap → Prop) → Prop) (hY : YMono Y) (f : Nat) : Tab := (Tab.zero.addY l Y hY).addW 77 (frameC (cW l Y f)) (frameC_mono (cW_mono hY))
theorem tbW_q (l : Nat) (Y) (hY : YMono Y) (f : Nat) (g : FuncId) (xs : List D) : (tbW l Y hY f).q g xs = none := rfl
theorem tbW_c (l : Nat) (Y) (hY : YMono Y) (f : Nat) (g : FuncId) (xs : List D) (h : AHeap) (K E : D → AHeap → Prop) : (tbW l Y hY f).c g xs h K E = if g = 77 then frameC (cW l Y f) xs h K else False := rfl
theorem tbW_y (l : Nat) (Y) (hY : YMono Y) (f : Nat) (xs : List D) (h : AHeap) (K : D → AHeap → Prop) : (tbW l Y hY f).y l xs h K = Y xs h K := if_pos rfl
theorem walk_step (κ : Kap) (w : World) (l : Nat) (Y : List D → AHeap → (D → AHeap → Prop) → Prop) (hY : YMono Y) (f : Nat) (hT : (tbW l Y hY f).okY Tryd.prog κ w) (args : List D) (h : AHeap) (K : D → AHeap → Prop) (x : cW l Y (f + 1) args h K) :
    ACallsAt Tryd.prog κ w 77 args h fun o h' => ∃ d, o = .ret d ∧ K d h' := by
  obtain ⟨n, a, id, h0, rfl, rfl, h0i, hn, ha, hb, y⟩ := x
  refine ACallsAt.of_U hT st77r (by simp) ?_
  have hTq := tbW_q l Y hY f
  have hTc := tbW_c l Y hY f
  have hTy := tbW_y l Y hY f
  generalize tbW l Y hY f = TT at hTq hTc hTy ⊢
  obtain ⟨k, t, s, m, kids⟩ := n
  rw [enc_mk]
  have hcn : ∀ x ∈ kids, x.cnt < f := fun x hx => by have := cnt_kid (k := k) (t := t) (s := s) (n := m) hx; omega
  rw [cnt_mk] at hb
  rw [listF_mk] at y
  have hln := cnts_len kids
  simp (config := {maxSteps := 1000000}) only [s77r, i_callNe, Int.natCast_nonneg, Nat.le_refl, Int.le_refl, List.take_succ_cons, List.take_zero, decide_true, decide_false, Bool.and_false, Bool.false_and, zz, zzN, zzF, zzD, zzM, cond_true, cond_false, ↓reduceIte, Nat.reduceEqDiff, Nat.reduceBEq, Int.reduceLT, Int.reduceLE, Int.reduceToNat, Int.reduceEq, Int.reduceAdd, Int.reduceSub, Int.reduceMul, Int.reduceNeg, Nat.reduceMul, Nat.reduceSub, Nat.reduceLeDiff, Nat.reduceLT, Int.reduceGT, Int.reduceGE, Int.reduceBEq, Int.reduceBNe, reduceCtorEq, Nat.reduceAdd]
  intro i3 e3 e3' f3
  simp (config := {maxSteps := 1000000}) only [e3, e3', f3, h0i, hTq, i_callNe, Int.natCast_nonneg, Nat.le_refl, Int.le_refl, List.take_succ_cons, List.take_zero, decide_true, decide_false, Bool.and_false, Bool.false_and, zz, zzN, zzF, zzD, zzM, cond_true, cond_false, ↓reduceIte, Nat.reduceEqDiff, Nat.reduceBEq, Int.reduceLT, Int.reduceLE, Int.reduceToNat, Int.reduceEq, Int.reduceAdd, Int.reduceSub, Int.reduceMul, Int.reduceNeg, Nat.reduceMul, Nat.reduceSub, Nat.reduceLeDiff, Nat.reduceLT, Int.reduceGT, Int.reduceGE, Int.reduceBEq, Int.reduceBNe, reduceCtorEq, Nat.reduceAdd]
  rw [i_yield]
  refine ⟨h0, [(i3, .cells [.int .i64 k, .int .i64 t, .str s, .int .i64 m, .sl (Nd.encs kids)]), (id, .cells [.int .i64 a])], rfl, ?_, ?_⟩
  · intro p hp
    simp only [List.mem_cons, List.not_mem_nil, or_false] at hp
    rcases hp with rfl | rfl
    · exact f3
    · exact h0i
  rw [hTy]
  simp (config := {maxSteps := 1000000}) only [i_callNe, Int.natCast_nonneg, Nat.le_refl, Int.le_refl, List.take_succ_cons, List.take_zero, decide_true, decide_false, Bool.and_false, Bool.false_and, zz, zzN, zzF, zzD, zzM, cond_true, cond_false, ↓reduceIte, Nat.reduceEqDiff, Nat.reduceBEq, Int.reduceLT, Int.reduceLE, Int.reduceToNat, Int.reduceEq, Int.reduceAdd, Int.reduceSub, Int.reduceMul, Int.reduceNeg, Nat.reduceMul, Nat.reduceSub, Nat.reduceLeDiff, Nat.reduceLT, Int.reduceGT, Int.reduceGE, Int.reduceBEq, Int.reduceBNe, reduceCtorEq, Nat.reduceAdd]
  rw [← enc_mk]
  refine hY _ _ _ _ (fun d h1 kk => ?_) y
  obtain ⟨b, rfl, kt, kf⟩ := kk
  intro hL1 hL2
  simp only [AHeap.puts, List.foldr_cons, List.foldr_nil]
  cases b with
  | false =>
    have kf := kf rfl hL2
    simp (config := {maxSteps := 1000000}) only [e3, e3', retU_ret, Bool.not_false, i_callNe, Int.natCast_nonneg, Nat.le_refl, Int.le_refl, List.take_succ_cons, List.take_zero, decide_true, decide_false, Bool.and_false, Bool.false_and, zz, zzN, zzF, zzD, zzM, cond_true, cond_false, ↓reduceIte, Nat.reduceEqDiff, Nat.reduceBEq, Int.reduceLT, Int.reduceLE, Int.reduceToNat, Int.reduceEq, Int.reduceAdd, Int.reduceSub, Int.reduceMul, Int.reduceNeg, Nat.reduceMul, Nat.reduceSub, Nat.reduceLeDiff, Nat.reduceLT, Int.reduceGT, Int.reduceGE, Int.reduceBEq, Int.reduceBNe, reduceCtorEq, Nat.reduceAdd]
    exact ⟨_, AHeap.sub_X (AHeap.subX_r (.inr (by simp [hL1, e3])) AHeap.subX_refl), kf⟩
  | true =>
    have kt := kt rfl
    simp (config := {maxSteps := 1000000}) only [e3, e3', Bool.not_true, enc_mk, i_callNe, Int.natCast_nonneg, Nat.le_refl, Int.le_refl, List.take_succ_cons, List.take_zero, decide_true, decide_false, Bool.and_false, Bool.false_and, zz, zzN, zzF, zzD, zzM, cond_true, cond_false, ↓reduceIte, Nat.reduceEqDiff, Nat.reduceBEq, Int.reduceLT, Int.reduceLE, Int.reduceToNat, Int.reduceEq, Int.reduceAdd, Int.reduceSub, Int.reduceMul, Int.reduceNeg, Nat.reduceMul, Nat.reduceSub, Nat.reduceLeDiff, Nat.reduceLT, Int.reduceGT, Int.reduceGE, Int.reduceBEq, Int.reduceBNe, reduceCtorEq, Nat.reduceAdd]
    intro _
    refine run_loop (X := Nat × AHeap × Int) (fun z => [(1, .ptr id 1 0), (2, .func (.yield l) [] []), (17, .sl (Nd.encs kids)), (18, .int .i64 kids.length), (19, .int .i64 z.1)]) (fun z => (z.2.1.set id (.cells [.int .i64 z.2.2])).set i3 (.cells [.int .i64 k, .int .i64 t, .str s, .int .i64 m, .sl (Nd.encs kids)])) (fun z => kids.length - z.1)
      (fun z => z.1 ≤ kids.length ∧ z.2.1.f id = none ∧ z.2.1.f i3 = none ∧ 0 ≤ z.2.2 ∧ z.2.2 + 1 + Nd.cnts (kids.drop z.1) ≤ 1000000000 ∧ YI Y (listFs (kids.drop z.1)) (z.2.2 + 1) z.2.1 (fun b h' a' => h'.f id = none → K (.bool b) (h'.set id (.cells [.int .i64 a'])))) (0, h1, a) ⟨Nat.zero_le _, hL2, hL1, ha, by simp only [List.drop_zero]; omega, kt⟩ (by simp only [len_encs, i_callNe, Int.natCast_nonneg, Nat.le_refl, Int.le_refl, List.take_succ_cons, List.take_zero, decide_true, decide_false, Bool.and_false, Bool.false_and, zz, zzN, zzF, zzD, zzM, cond_true, cond_false, ↓reduceIte, Nat.reduceEqDiff, Nat.reduceBEq, Int.reduceLT, Int.reduceLE, Int.reduceToNat, Int.reduceEq, Int.reduceAdd, Int.reduceSub, Int.reduceMul, Int.reduceNeg, Nat.reduceMul, Nat.reduceSub, Nat.reduceLeDiff, Nat.reduceLT, Int.reduceGT, Int.reduceGE, Int.reduceBEq, Int.reduceBNe, reduceCtorEq, Nat.reduceAdd]) (AHeap.sub_refl _) ?_
    rintro ⟨i, hh, c⟩ Q ⟨j1, j2, j3, j4, j5, j6⟩ hQ
    simp only at j1 j2 j3 j4 j5 j6 hQ ⊢
    by_cases ci : i < kids.length
    · have g : ((i : Int) < (kids.length : Int)) = True := eq_true (by omega)
      obtain ⟨x, hx⟩ : ∃ x, kids[i]? = some x := ⟨_, List.getElem?_eq_getElem ci⟩
      have hxm : x ∈ kids := List.mem_of_getElem? hx
      have hac : ∀ (K : D → AHeap → Prop) (h : AHeap), askE 5 K h (Nd.encs kids) (i : Int) = K (.eptr x.enc 0) h := fun K h => askE_encs hx
      have hpx := part_enc x
      have dr : kids.drop i = x :: kids.drop (i + 1) := by
        rw [List.drop_eq_getElem_cons ci]
        congr 1
        exact (List.getElem?_eq_some_iff.1 hx).2
      rw [dr, cnts_cons] at j5
      rw [dr, listFs_cons] at j6
      have wc : IntKind.i64.wrap (c + 1) = c + 1 := wrap_i64 (by omega) (by omega)
      have wi : IntKind.i64.wrap ((i : Int) + 1) = ((i + 1 : Nat) : Int) := wrap_succ (by omega)
      have hxc := hcn x hxm
      have hx5 := len_enc x
      have hxo := enc_ok x
      have hlx := listF_len x
      obtain ⟨xk, xt, xs, xm, xl⟩ := x
      rw [enc_mk] at *
      simp (config := {maxSteps := 1000000}) only [g, hac, hpx, e3, e3', wc, wi, hTq, i_callNe, Int.natCast_nonneg, Nat.le_refl, Int.le_refl, List.take_succ_cons, List.take_zero, decide_true, decide_false, Bool.and_false, Bool.false_and, zz, zzN, zzF, zzD, zzM, cond_true, cond_false, ↓reduceIte, Nat.reduceEqDiff, Nat.reduceBEq, Int.reduceLT, Int.reduceLE, Int.reduceToNat, Int.reduceEq, Int.reduceAdd, Int.reduceSub, Int.reduceMul, Int.reduceNeg, Nat.reduceMul, Nat.reduceSub, Nat.reduceLeDiff, Nat.reduceLT, Int.reduceGT, Int.reduceGE, Int.reduceBEq, Int.reduceBNe, reduceCtorEq, Nat.reduceAdd]
      intro i8 n1 n2 n3 n4 n5
      simp (config := {maxSteps := 1000000}) only [g, hac, hpx, e3, e3', wc, wi, hTq, n1, n2, n3, n4, n5, j2, j3, hTc, i_callNe, Int.natCast_nonneg, Nat.le_refl, Int.le_refl, List.take_succ_cons, List.take_zero, decide_true, decide_false, Bool.and_false, Bool.false_and, zz, zzN, zzF, zzD, zzM, cond_true, cond_false, ↓reduceIte, Nat.reduceEqDiff, Nat.reduceBEq, Int.reduceLT, Int.reduceLE, Int.reduceToNat, Int.reduceEq, Int.reduceAdd, Int.reduceSub, Int.reduceMul, Int.reduceNeg, Nat.reduceMul, Nat.reduceSub, Nat.reduceLeDiff, Nat.reduceLT, Int.reduceGT, Int.reduceGE, Int.reduceBEq, Int.reduceBNe, reduceCtorEq, Nat.reduceAdd]
      refine ⟨hh.set id (.cells [.int .i64 (c + 1)]), [(i8, .cells [.int .i64 xk, .int .i64 xt, .str xs, .int .i64 xm, .sl (Nd.encs xl)]), (i3, .cells [.int .i64 k, .int .i64 t, .str s, .int .i64 m, .sl (Nd.encs kids)])], ?_, ?_, ?_⟩
      · refine AHeap.ext fun q => ?_
        simp only [AHeap.puts, List.foldr_cons, List.foldr_nil, AHeap.set_f]
        by_cases q1r : q = i8
        · subst q1r; simp [n1, n2, n3, n4]
        · by_cases q2r : q = i3
          · subst q2r; simp [q1r, e3]
          · by_cases q3r : q = id
            · simp [q3r, n1, n2, n3, n4, e3, e3']
            · simp [q1r, q2r, q3r]
      · intro p hp
        simp only [List.mem_cons, List.not_mem_nil, or_false] at hp
        rcases hp with rfl | rfl
        · simp [n1, n2, n3, n4, n5]
        · simp [e3, j3]
      refine ⟨.mk xk xt xs xm xl, c + 1, id, hh, by rw [enc_mk], rfl, j2, hxc, by omega, by omega, YI_monoK hY _ _ _ _ _ (fun b hn cn kk hid hL => ?_) (YI_idx hY _ _ _ _ (YI_app hY _ _ _ _ _ j6))⟩
      obtain ⟨⟨kt, kf⟩, ki⟩ := kk
      have hL1 := hL _ List.mem_cons_self
      have hL2 := hL _ (List.mem_cons_of_mem _ List.mem_cons_self)
      simp only [AHeap.set_f] at hL1 hL2
      rw [if_neg (by first | exact n1 | exact n2 | exact n3 | exact n4)] at hL1
      rw [if_neg e3] at hL2
      simp only [AHeap.puts, List.foldr_cons, List.foldr_nil]
      cases b with
      | false =>
        have kf := kf rfl hid
        simp (config := {maxSteps := 1000000}) only [e3, e3', retU_ret, Bool.not_false, i_callNe, Int.natCast_nonneg, Nat.le_refl, Int.le_refl, List.take_succ_cons, List.take_zero, decide_true, decide_false, Bool.and_false, Bool.false_and, zz, zzN, zzF, zzD, zzM, cond_true, cond_false, ↓reduceIte, Nat.reduceEqDiff, Nat.reduceBEq, Int.reduceLT, Int.reduceLE, Int.reduceToNat, Int.reduceEq, Int.reduceAdd, Int.reduceSub, Int.reduceMul, Int.reduceNeg, Nat.reduceMul, Nat.reduceSub, Nat.reduceLeDiff, Nat.reduceLT, Int.reduceGT, Int.reduceGE, Int.reduceBEq, Int.reduceBNe, reduceCtorEq, Nat.reduceAdd]
        exact ⟨_, AHeap.sub_X (AHeap.subX_r (.inr (by simp [hL1, n1, n2, n3, n4, e3, hL2])) (AHeap.subX_r (.inr (by simp [hL2, e3])) AHeap.subX_refl)), kf⟩
      | true =>
        have kt := kt rfl
        have ki := ki rfl
        simp (config := {maxSteps := 1000000}) only [e3, e3', wi, Bool.not_true, i_callNe, Int.natCast_nonneg, Nat.le_refl, Int.le_refl, List.take_succ_cons, List.take_zero, decide_true, decide_false, Bool.and_false, Bool.false_and, zz, zzN, zzF, zzD, zzM, cond_true, cond_false, ↓reduceIte, Nat.reduceEqDiff, Nat.reduceBEq, Int.reduceLT, Int.reduceLE, Int.reduceToNat, Int.reduceEq, Int.reduceAdd, Int.reduceSub, Int.reduceMul, Int.reduceNeg, Nat.reduceMul, Nat.reduceSub, Nat.reduceLeDiff, Nat.reduceLT, Int.reduceGT, Int.reduceGE, Int.reduceBEq, Int.reduceBNe, reduceCtorEq, Nat.reduceAdd]
        refine hQ (i + 1, hn, cn) _ _ ⟨by omega, hid, hL2, show 0 ≤ cn by omega, by simp only; rw [hlx] at ki; omega, kt⟩ (by simp only [i_callNe, Int.natCast_nonneg, Nat.le_refl, Int.le_refl, List.take_succ_cons, List.take_zero, decide_true, decide_false, Bool.and_false, Bool.false_and, zz, zzN, zzF, zzD, zzM, cond_true, cond_false, ↓reduceIte, Nat.reduceEqDiff, Nat.reduceBEq, Int.reduceLT, Int.reduceLE, Int.reduceToNat, Int.reduceEq, Int.reduceAdd, Int.reduceSub, Int.reduceMul, Int.reduceNeg, Nat.reduceMul, Nat.reduceSub, Nat.reduceLeDiff, Nat.reduceLT, Int.reduceGT, Int.reduceGE, Int.reduceBEq, Int.reduceBNe, reduceCtorEq, Nat.reduceAdd]) ?_ (by simp only; omega)
        exact AHeap.sub_X (AHeap.subX_r (.inr (by simp [hL1, n1, n2, n3, n4, hL2])) (AHeap.subX_l (by simp) (AHeap.subX_l (by simp [e3, e3']) (AHeap.subX_r (.inl (by simp)) (AHeap.subX_r (.inl (by simp)) AHeap.subX_refl)))))
    · have e0 : i = kids.length := by omega
      subst e0
      have g : ((kids.length : Int) < (kids.length : Int)) = False := eq_false (by omega)
      rw [List.drop_length, listFs_nil] at j6
      have kk : K (.bool true) (hh.set id (.cells [.int .i64 c])) := by
        have : YI Y [] (c + 1) hh (fun b h' a' => h'.f id = none → K (.bool b) (h'.set id (.cells [.int .i64 a']))) = ((hh.f id = none → K (.bool true) (hh.set id (.cells [.int .i64 (c + 1 - 1)])))) := rfl
        rw [this, show c + 1 - 1 = c by omega] at j6
        exact j6 j2
      simp (config := {maxSteps := 1000000}) only [g, retU_ret, i_callNe, Int.natCast_nonneg, Nat.le_refl, Int.le_refl, List.take_succ_cons, List.take_zero, decide_true, decide_false, Bool.and_false, Bool.false_and, zz, zzN, zzF, zzD, zzM, cond_true, cond_false, ↓reduceIte, Nat.reduceEqDiff, Nat.reduceBEq, Int.reduceLT, Int.reduceLE, Int.reduceToNat, Int.reduceEq, Int.reduceAdd, Int.reduceSub, Int.reduceMul, Int.reduceNeg, Nat.reduceMul, Nat.reduceSub, Nat.reduceLeDiff, Nat.reduceLT, Int.reduceGT, Int.reduceGE, Int.reduceBEq, Int.reduceBNe, reduceCtorEq, Nat.reduceAdd]
      exact ⟨_, AHeap.sub_X (AHeap.subX_r (.inr (by simp [j3, e3])) AHeap.subX_refl), kk⟩

theorem walk_ok (l : Nat) (Y : List D → AHeap → (D → AHeap → Prop) → Prop) (hY : YMono Y) : ∀ (f : Nat) (κ : Kap) (w : World), (∀ args h K, Y args h K → ∀ κ' w', Le κ w κ' w' → YCalls Tryd.prog κ' w' l args h K) → ∀ args h K, cW l Y f args h K → ACallsAt Tryd.prog κ w 77 args h fun o h' => ∃ d, o = .ret d ∧ K d h'
  | 0, κ, w, hs, args, h, K, x => by
    obtain ⟨n, a, id, h0, e1, e2, e3, e4, _⟩ := x
    omega
  | f + 1, κ, w, hs, args, h, K, x => by
    refine walk_step κ w l Y hY f ?_ args h K x
    refine Tab.addW_okY (Tab.addY_ok ((Tab.zero_ok _).toY κ w) hs) fun args h K x κ' w' le => ?_
    exact frameC_ok (fun args h K x => walk_ok l Y hY f κ' w' (fun args h K y κ'' w'' le' => hs args h K y κ'' w'' (le.trans le')) args h K x) args h K x
/-- A range over all nodes of a tree. -/
def rAll (l : Nat) (Y : List D → AHeap → (D → AHeap → Prop) → Prop) (args : List D) (h : AHeap) (K : D → AHeap → Prop) : Prop :=
  ∃ (n : Nd) (id : Nat), args = [.func (.yield l) [] [], .ptr id 1 0] ∧ h.f id = some (.cells (Nd.enc n)) ∧ n.cnt ≤ 100000000 ∧ YI Y (listF n) 0 h (fun _ h' _ => K (.tuple []) h')
theorem rAll_mono (l : Nat) (Y Y' : List D → AHeap → (D → AHeap → Prop) → Prop) (args : List D) (h : AHeap) (K K' : D → AHeap → Prop) (hY : ∀ args h (K K' : D → AHeap → Prop), (∀ d h, K d h → K' d h) → Y args h K → Y' args h K') (hk : ∀ d h, K d h → K' d h) (x : rAll l Y args h K) : rAll l Y' args h K' := by
  obtain ⟨n, id, e1, e2, e3, y⟩ := x
  exact ⟨n, id, e1, e2, e3, YI_mono hY _ _ _ _ _ (fun _ _ _ k => hk _ _ k) y⟩
def tbV (l : Nat) (Y : List D → AHeap → (D → AHeap → Prop) → Prop) (hY : YMono Y) (f : Nat) : Tab := (Tab.zero.addY l Y hY).addW 77 (cW l Y f) (cW_mono hY)
theorem tbV_q (l : Nat) (Y) (hY : YMono Y) (f : Nat) (g : FuncId) (xs : List D) : (tbV l Y hY f).q g xs = none := rfl
theorem tbV_c (l : Nat) (Y) (hY : YMono Y) (f : Nat) (g : FuncId) (xs : List D) (h : AHeap) (K E : D → AHeap → Prop) : (tbV l Y hY f).c g xs h K E = if g = 77 then cW l Y f xs h K else False := rfl
theorem rAll_ok (l : Nat) (Y : List D → AHeap → (D → AHeap → Prop) → Prop) (args : List D) (h : AHeap) (K : D → AHeap → Prop) (κ : Kap) (w : World) (hY : YMono Y) (hs : ∀ args h K, Y args h K → ∀ κ' w', Le κ w κ' w' → YCalls Tryd.prog κ' w' l args h K) (x : rAll l Y args h K) :
    ACallsAt Tryd.prog κ w 76 args h (AOut.to K fun _ _ => False) := by
  obtain ⟨n, id, rfl, hid, hn, y⟩ := x
  have hT : (tbV l Y hY 200000000).okY Tryd.prog κ w := Tab.addW_okY (Tab.addY_ok ((Tab.zero_ok _).toY κ w) hs) fun args h K x κ' w' le =>
    walk_ok l Y hY _ κ' w' (fun args h K y κ'' w'' le' => hs args h K y κ'' w'' (le.trans le')) args h K x
  have key : ACallsAt Tryd.prog κ w 76 [.func (.yield l) [] [], .ptr id 1 0] h fun o h' => ∃ d, o = .ret d ∧ K d h' := by
    refine ACallsAt.of_U hT st76r (by simp) ?_
    have hTq := tbV_q l Y hY 200000000
    have hTc := tbV_c l Y hY 200000000
    generalize tbV l Y hY 200000000 = TT at hTq hTc ⊢
    obtain ⟨k, t, s, m, kids⟩ := n
    have hid' := hid
    rw [enc_mk] at hid'
    simp (config := {maxSteps := 1000000}) only [s76r, i_callNe, Int.natCast_nonneg, Nat.le_refl, Int.le_refl, List.take_succ_cons, List.take_zero, decide_true, decide_false, Bool.and_false, Bool.false_and, zz, zzN, zzF, zzD, zzM, cond_true, cond_false, ↓reduceIte, Nat.reduceEqDiff, Nat.reduceBEq, Int.reduceLT, Int.reduceLE, Int.reduceToNat, Int.reduceEq, Int.reduceAdd, Int.reduceSub, Int.reduceMul, Int.reduceNeg, Nat.reduceMul, Nat.reduceSub, Nat.reduceLeDiff, Nat.reduceLT, Int.reduceGT, Int.reduceGE, Int.reduceBEq, Int.reduceBNe, reduceCtorEq, Nat.reduceAdd]
    intro i3 f3
    have ne : ¬ i3 = id := fun e => by subst e; rw [hid] at f3; cases f3
    have ne' : ¬ id = i3 := fun e => ne e.symm
    simp (config := {maxSteps := 1000000}) only [f3, ne, ne', hid', hTc, i_callNe, Int.natCast_nonneg, Nat.le_refl, Int.le_refl, List.take_succ_cons, List.take_zero, decide_true, decide_false, Bool.and_false, Bool.false_and, zz, zzN, zzF, zzD, zzM, cond_true, cond_false, ↓reduceIte, Nat.reduceEqDiff, Nat.reduceBEq, Int.reduceLT, Int.reduceLE, Int.reduceToNat, Int.reduceEq, Int.reduceAdd, Int.reduceSub, Int.reduceMul, Int.reduceNeg, Nat.reduceMul, Nat.reduceSub, Nat.reduceLeDiff, Nat.reduceLT, Int.reduceGT, Int.reduceGE, Int.reduceBEq, Int.reduceBNe, reduceCtorEq, Nat.reduceAdd]
    refine ⟨.mk k t s m kids, 0, i3, h, by rw [enc_mk], rfl, f3, by omega, by omega, by omega, YI_monoK hY _ _ _ _ _ (fun b h' a' kk hi3 => ?_) y⟩
    simp (config := {maxSteps := 1000000}) only [retU_normal, i_callNe, Int.natCast_nonneg, Nat.le_refl, Int.le_refl, List.take_succ_cons, List.take_zero, decide_true, decide_false, Bool.and_false, Bool.false_and, zz, zzN, zzF, zzD, zzM, cond_true, cond_false, ↓reduceIte, Nat.reduceEqDiff, Nat.reduceBEq, Int.reduceLT, Int.reduceLE, Int.reduceToNat, Int.reduceEq, Int.reduceAdd, Int.reduceSub, Int.reduceMul, Int.reduceNeg, Nat.reduceMul, Nat.reduceSub, Nat.reduceLeDiff, Nat.reduceLT, Int.reduceGT, Int.reduceGE, Int.reduceBEq, Int.reduceBNe, reduceCtorEq, Nat.reduceAdd]
    exact ⟨h', AHeap.sub_X (AHeap.subX_r (.inr hi3) AHeap.subX_refl), kk⟩
  exact ⟨key.1, fun vs hi hr => (key.2 vs hi hr).mono fun e w' ⟨o, h', κ', ⟨d, a1, a2⟩, b⟩ => ⟨o, h', κ', by subst a1; exact a2, b⟩⟩
def tb46r : Tab := tb19n.addS 46 s46r [.tmp 2] 4
theorem tb46r_q : tb46r.q = tb19n.q := rfl
theorem tb46r_a : tb46r.a = tb19n.a := rfl
theorem tb46r_c (g : FuncId) (args : List D) (h : AHeap) (K E : D → AHeap → Prop) : tb46r.c g args h K E = if g = 46 then (args.length ≤ 4 ∧ vc tb19n s46r (todo tb19n (retS [.tmp 2] K) (panS E) []) (panS E) (argFr args) h) else tb19n.c g args h K E := rfl
theorem tb46r_ok : tb46r.ok Tryd.prog := Tab.addS_ok tb19n_ok st46r
theorem tb46r_e : type_of% (And.intro (And.intro @tb46r_q (And.intro @tb46r_a @tb46r_c)) @tb19n_e) := (And.intro (And.intro @tb46r_q (And.intro @tb46r_a @tb46r_c)) @tb19n_e)

def tbR : Tab := tb46r.addR 76 rAll rAll_mono
theorem tbR_q : tbR.q = tb46r.q := rfl
theorem tbR_a : tbR.a = tb46r.a := rfl
theorem tbR_c : tbR.c = tb46r.c := rfl
theorem tbR_e : type_of% (And.intro (And.intro @tbR_q (And.intro @tbR_a @tbR_c)) @tb46r_e) := (And.intro (And.intro @tbR_q (And.intro @tbR_a @tbR_c)) @tb46r_e)
theorem tbR_r (g : FuncId) (l : Nat) (Y : List D → AHeap → (D → AHeap → Prop) → Prop) (xs : List D) (h : AHeap) (K : D → AHeap → Prop) : tbR.r g l Y xs h K = if g = 76 then rAll l Y xs h K else tb46r.r g l Y xs h K := rfl
theorem tbR_ok : tbR.ok Tryd.prog := Tab.addR_ok tb46r_ok fun l Y args h K κ w hY hs x => rAll_ok l Y args h K κ w hY hs x
theorem params2 (σ : Fr) (p q : Nat) (d e : D) : σ.params [p, q] [d, e] = (({ σ with defs := [] } : Fr).put (some p) d).put (some q) e := rfl
end
end Go.Proofs.YthpgepillaeldaaDoor.Zz
