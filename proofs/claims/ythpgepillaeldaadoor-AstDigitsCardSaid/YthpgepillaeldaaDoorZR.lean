/- Rows of operations do what they ask, in any order. -/
import Derived.Test.YthpgepillaeldaaDoorZQ
set_option linter.unusedVariables false
set_option linter.unusedSimpArgs false
namespace Go.Proofs.YthpgepillaeldaaDoor.Zz
variable {P : Program} {T : Tab} {κ : Kap} {h : AHeap} {w : World} {σ : Fr} {n : Nat} {a : Act}

theorem compO_spec [Globs] {cfg : Cfg} {dr : Bool} {r j : Nat} {ops : Array Oper} {oi : OpI} (hc : compO P n cfg dr r ops j = some oi) :
    ∃ o i q q', ops[j]? = some o ∧ (∀ t, o.dst = some t → t < n) ∧ compI P q q' o = some i ∧ compG ops o = some oi.g ∧ oi.d = o.dst ∧
      ((oi.i = i ∧ (oi.p = true → ∀ k x, i ≠ .len0 k x)) ∨ (∃ k x, i = .len k x ∧ oi.i = .len0 k x ∧ oi.p = true) ∨ (∃ k x v ys, i = .store k x v ∧ oi.i = .storeNe k x v ys ∧ oi.p = false) ∨ (∃ k x b, i = .load k x ∧ oi.i = .loadOf k x b ∧ oi.p = false) ∨ (∃ k, i = .call (.f k) [] ∧ oi.i = .callA k ∧ oi.p = false) ∨ (∃ f as ys, i = .call f as ∧ oi.i = .callNe f as ys ∧ oi.p = false)) := by
  unfold compO at hc
  split at hc
  · cases hc
  · rename_i o ho
    split at hc
    · rename_i hd
      have hd' : ∀ t, o.dst = some t → t < n := fun t e => by simpa [dstOk, e] using hd
      split at hc
      · rename_i k x g e1 e2
        split at hc
        · cases hc; exact ⟨o, _, _, _, ho, hd', e1, e2, rfl, .inr (.inl ⟨k, x, rfl, rfl, rfl⟩)⟩
        · cases hc; exact ⟨o, _, _, _, ho, hd', e1, e2, rfl, .inl ⟨rfl, fun h => by cases h⟩⟩
      · rename_i k x v g e1 e2
        split at hc
        · rename_i ys _; cases hc; exact ⟨o, _, _, _, ho, hd', e1, e2, rfl, .inr (.inr (.inl ⟨k, x, v, ys, rfl, rfl, rfl⟩))⟩
        · cases hc; exact ⟨o, _, _, _, ho, hd', e1, e2, rfl, .inl ⟨rfl, fun h => by cases h⟩⟩
      · rename_i k x g e1 e2
        split at hc
        · rename_i b _; cases hc; exact ⟨o, _, _, _, ho, hd', e1, e2, rfl, .inr (.inr (.inr (.inl ⟨k, x, b, rfl, rfl, rfl⟩)))⟩
        · cases hc; exact ⟨o, _, _, _, ho, hd', e1, e2, rfl, .inl ⟨rfl, fun h => by cases h⟩⟩
      · rename_i k g e1 e2
        split at hc
        · cases hc; exact ⟨o, _, _, _, ho, hd', e1, e2, rfl, .inr (.inr (.inr (.inr (.inl ⟨k, rfl, rfl, rfl⟩))))⟩
        · cases hc; exact ⟨o, _, _, _, ho, hd', e1, e2, rfl, .inl ⟨rfl, fun h => by cases h⟩⟩
      · rename_i f as g hno e1 e2
        split at hc
        · rename_i ys _; cases hc; exact ⟨o, _, _, _, ho, hd', e1, e2, rfl, .inr (.inr (.inr (.inr (.inr ⟨f, as, ys, rfl, rfl, rfl⟩))))⟩
        · cases hc; exact ⟨o, _, _, _, ho, hd', e1, e2, rfl, .inl ⟨rfl, fun h => by cases h⟩⟩
      · rename_i i g hno hno2 hno3 hno4 hno5 e1 e2
        cases hc
        refine ⟨o, i, _, _, ho, hd', e1, e2, rfl, .inl ⟨rfl, fun _ k x e => ?_⟩⟩
        subst e
        -- no operation is turned into that
        exact absurd e1 (by
          generalize cfg.rows.contains (r, j) = q
          generalize (!cfg.loud.contains (r, j)) = q'
          intro e
          unfold compI at e
          (repeat' split at e) <;> first | (cases e; done) | (simp only [Option.map_eq_some_iff] at e; obtain ⟨_, _, e⟩ := e; cases e; done))
      · cases hc
    · cases hc

theorem Upon_len0 {k : LK} {x : D} {d : D} {K E : D → AHeap → Prop} (e : lenD k x = some d) (hk : K d h) : vcI T (.len k x) h K E := by
  unfold lenD at e
  split at e <;> first | (cases e; done) | (cases e; simp only [vcI]; first | exact hk | exact fun _ => hk)

theorem callA_op [Globs] (hT : T.ok P) {q q' : Bool} {o : Oper} {k : FuncId} (hc : compI P q q' o = some (.call (.f k) [])) (hi : Inv κ h w) (hp : Pre κ w σ n a) {K E : D → AHeap → Prop} (hv : vcI T (.callA k) h K E) : UponA P κ h w K E ((execOp a.eval o).run P w) := by
  unfold compI at hc
  split at hc
  all_goals first
    | (cases hc; done)
    | (simp only [Option.map_eq_some_iff] at hc; obtain ⟨_, _, e⟩ := hc; cases e; done)
    | ((repeat' split at hc) <;> first | (cases hc; done) | (simp only [Option.map_eq_some_iff] at hc; obtain ⟨_, _, e⟩ := hc; cases e; done) | skip)
  all_goals
    rename_i c hop _ f hcal _ _ g as e1 e2 _
    have hf : a.eval f = .func (.func k) #[] #[] ∧ c.args.map a.eval = #[] := by
      simp only [Option.some.injEq, Ins.call.injEq] at hc
      obtain ⟨rfl, rfl⟩ := hc
      constructor
      · cases f with
        | func m => simp [opd] at e1; subst e1; rfl
        | const v =>
          simp only [opd, Option.map_eq_some_iff] at e1
          obtain ⟨d, _, e⟩ := e1
          cases e
        | tmp t => simp [opd] at e1
        | global g => simp only [opd, Option.map_eq_some_iff] at e1; obtain ⟨_, _, e⟩ := e1; cases e
      · have := opds_length e2
        have h0 : c.args.toList = [] := List.length_eq_zero_iff.1 (by simpa using this)
        have : c.args = #[] := by apply Array.ext'; simpa using h0
        rw [this]; simp
    simp only [execOp, hop, resolve, hcal, hf.1, hf.2]
    exact callA_ins hT hi hv

/-- An operation that is wanted does what it asks; else its slot is empty. -/
theorem opB_sound [Globs] (hT : T.ok P) {cfg : Cfg} {dr : Bool} {r j : Nat} {ops : Array Oper} {oi : OpI} (hc : compO P n cfg dr r ops j = some oi) {o : Oper} (ho : ops[j]? = some o) (hi : Inv κ h w) (hp : Pre κ w σ n a) {K E : D → AHeap → Prop} (hv : opB T oi K E σ h) :
    (Region.wanted o (yielded ops a.tmps) = true ∧ UponA P κ h w K E ((execOp a.eval o).run P w)) ∨ (Region.wanted o (yielded ops a.tmps) = false ∧ K (.tuple []) h) := by
  obtain ⟨o', i, q, q', ho', hd, hi', hg, hdst, hcase⟩ := compO_spec hc
  rw [ho] at ho'
  cases ho'
  have run : vcO T oi.p (oi.i.map σ.ev) h K E → UponA P κ h w K E ((execOp a.eval o).run P w) := fun hv => by
    by_cases hcall : ∃ k, i = .call (.f k) [] ∧ oi.i = .callA k ∧ oi.p = false
    · obtain ⟨k, e1, e2, e3⟩ := hcall
      rw [e2, e3] at hv
      rw [e1] at hi'
      exact callA_op hT hi' hi hp hv
    refine ins_sound hT hi' hi hp ?_
    rcases hcase with ⟨e1, e2⟩ | ⟨k, x, e1, e2, e3⟩ | ⟨k, x, v, ys, e1, e2, e3⟩ | ⟨k, x, b, e1, e2, e3⟩ | ⟨k, e1, e2, e3⟩ | ⟨f, as, ys, e1, e2, e3⟩
    · rw [e1] at hv
      cases hpp : oi.p with
      | false => rw [hpp] at hv; exact hv
      | true =>
        rw [hpp] at hv
        obtain ⟨d, h1, h2⟩ := hv
        refine valP_vcI h1 h2 fun k x e => ?_
        cases i <;> simp only [Ins.map] at e <;> first | (cases e; done) | exact e2 hpp _ _ rfl
    · rw [e2, e3] at hv
      obtain ⟨d, h1, h2⟩ := hv
      rw [e1]
      exact Upon_len0 h1 h2
    · rw [e2, e3] at hv
      rw [e1]
      exact hv.2
    · rw [e2, e3] at hv
      rw [e1]
      obtain ⟨d, h1, h2⟩ := hv
      split at h1
      · exact ⟨d, h1, h2⟩
      · cases h1
    · exact absurd ⟨k, e1, e2, e3⟩ hcall
    · rw [e2, e3] at hv
      rw [e1]
      simp only [vcO, Ins.map, vcI] at hv ⊢
      split at hv
      · exact T.mono _ _ _ _ _ _ _ (fun d h k => k.2) (fun _ _ k => k) hv
      · exact hv.elim
  unfold opB at hv
  unfold compG at hg
  cases hgu : o.guard with
  | none =>
    rw [hgu] at hg
    simp only [Option.some.injEq] at hg
    rw [← hg] at hv
    exact .inl ⟨by simp [Region.wanted, hgu], run hv⟩
  | some gw =>
    obtain ⟨g, want⟩ := gw
    rw [hgu] at hg
    simp only at hg
    split at hg
    · rename_i og hog
      split at hg
      · rename_i t ht
        simp only [Option.some.injEq] at hg
        rw [← hg] at hv
        simp only at hv
        have hy : ∀ v, a.tmps[t]? = some v → yielded ops a.tmps g = match v with | .bool b => some b | _ => none := fun v hv => by
          simp only [yielded, hog, Option.bind_some, ht, hv]
          cases v <;> rfl
        have rt := hp.env t
        split at hv
        · rename_i b hb
          rw [hb] at rt
          have hget : a.tmps[t]? = some (.bool b) := by
            rw [Array.getD_eq_getD_getElem?] at rt
            cases e : a.tmps[t]? with
            | none => rw [e] at rt; simp [undef] at rt; cases rt
            | some v => rw [e] at rt; simp at rt; cases rt; rfl
          have hy' := hy _ hget
          simp only at hy'
          have hw : Region.wanted o (yielded ops a.tmps) = (b == want) := by
            simp only [Region.wanted, hgu, hy']
            cases b <;> cases want <;> rfl
          by_cases hbw : b = want
          · exact .inl ⟨by rw [hw]; simp [hbw], run (hv.1 hbw)⟩
          · exact .inr ⟨by rw [hw]; simp [hbw], hv.2 (by cases b <;> cases want <;> first | rfl | exact absurd rfl hbw)⟩
        · rename_i hb
          rw [hb] at rt
          have hw : Region.wanted o (yielded ops a.tmps) = false := by
            have : yielded ops a.tmps g = none := by
              cases e : a.tmps[t]? with
              | none => simp only [yielded, hog, Option.bind_some, ht, e]
              | some v =>
                rw [hy _ e]
                rw [Array.getD_eq_getD_getElem?, e] at rt
                simp at rt
                cases rt
                rfl
            simp [Region.wanted, hgu, this]
          exact .inr ⟨hw, hv⟩
        · exact hv.elim
      · cases hg
    · cases hg

theorem upon_of [Globs] {o : Oper} {K E : D → AHeap → Prop} {next : Act → World → Prop} {Q : Exit → Act → World → Prop} {rr : Result Next}
    (hn : ∀ κ' h' w' v d, K d h' → Rep κ' w' v d → Inv κ' h' w' → Ev κ h w κ' h' w' → next (a.put o.dst v) w')
    (hq : ∀ κ' h' w' v d, E d h' → Rep κ' w' v d → Inv κ' h' w' → Ev κ h w κ' h' w' → Q (.panic [{ v, recovered := false }]) a w')
    (hu : UponA P κ h w K E rr) : o.upon P a next Q rr := by
  cases rr with
  | ok nx w' =>
    cases nx with
    | value v => obtain ⟨κ', h', d, k, r, i, e⟩ := hu; exact hn _ _ _ _ _ k r i e
    | skip => obtain ⟨κ', h', k, i, e⟩ := hu; exact hn _ _ _ _ _ k (.undef _) i e
    | enter f vs =>
      refine Calls.mono hu fun e w'' ⟨o', h'', κ'', k, r, i, ev⟩ => ?_
      cases r with
      | ret r => exact hn _ _ _ _ _ k r i ev
      | panic r => exact hq _ _ _ _ _ k r i ev
    | _ => exact hu.elim
  | halt x w' =>
    cases x with
    | panic v => obtain ⟨κ', h', d, k, r, i, e⟩ := hu; exact hq _ _ _ _ _ k r i e
    | _ => exact hu.elim

inductive Ex where
  | normal | ret | exit (id : Nat)

/-- What must hold at the end, told of the model. -/
def QK [Globs] (κ0 : Kap) (h0 : AHeap) (w0 : World) (n : Nat) (K : Ex → Fr → AHeap → Prop) (E : List DDef → D → AHeap → Prop) : Exit → Act → World → Prop
  | .normal, a, w => ∃ κ h σ, K .normal σ h ∧ Inv κ h w ∧ Pre κ w σ n a ∧ Ev κ0 h0 w0 κ h w
  | .ret, a, w => ∃ κ h σ, K .ret σ h ∧ Inv κ h w ∧ Pre κ w σ n a ∧ Ev κ0 h0 w0 κ h w
  | .exit id, a, w => ∃ κ h σ, K (.exit id) σ h ∧ Inv κ h w ∧ Pre κ w σ n a ∧ Ev κ0 h0 w0 κ h w
  | .panic chain, a, w => ∃ κ h d v ds, chain = [{ v, recovered := false }] ∧ E ds d h ∧ Rep κ w v d ∧ DefsRep κ w a.defers ds ∧ Inv κ h w ∧ Ev κ0 h0 w0 κ h w
  | _, _, _ => False

theorem wpOp_of [Globs] (hT : T.ok P) {κ0 : Kap} {h0 : AHeap} {w0 : World} {K : Ex → Fr → AHeap → Prop} {E : List DDef → D → AHeap → Prop} {cfg : Cfg} {dr : Bool} {r j : Nat} {ops : Array Oper} {oi : OpI} (hc : compO P n cfg dr r ops j = some oi) (hi : Inv κ h w) (hp : Pre κ w σ n a) (ev : Ev κ0 h0 w0 κ h w)
    {Kn : Fr → AHeap → Prop} {next : Act → World → Prop} (hv : opA T oi Kn (E σ.defs) σ h)
    (hn : ∀ κ' h' w' σ' a', Kn σ' h' → Inv κ' h' w' → Pre κ' w' σ' n a' → Ev κ0 h0 w0 κ' h' w' → next a' w') : wpOp P ops (QK κ0 h0 w0 n K E) j next a w := by
  obtain ⟨o, i, q, q', ho, hd, _, _, hdst, _⟩ := compO_spec hc
  have := opB_sound hT hc ho hi hp (opA_iff.1 hv)
  unfold wpOp
  simp only [ho]
  rcases this with ⟨hw, hu⟩ | ⟨hw, hk⟩
  · rw [if_pos hw]
    refine .inl ?_
    unfold Oper.wp
    refine upon_of (fun κ' h' w' v d k rr i' e' => ?_) (fun κ' h' w' v d k rr i' e' => ?_) hu
    · rw [hdst] at k
      exact hn κ' h' w' _ _ k i' ((hp.mono (e'.le hi)).put o.dst hd rr) (ev.trans e')
    · exact ⟨κ', h', d, v, σ.defs, rfl, k, rr, hp.defs.mono (e'.le hi), i', ev.trans e'⟩
  · rw [if_neg (by simp [hw])]
    rw [hdst] at hk
    refine hn κ h w _ _ hk hi (hp.put o.dst hd ?_) ev
    exact .tuple rfl fun i d hd => by simp at hd

/-- Operations one behind the other. -/
theorem ops_sound [Globs] (hT : T.ok P) {κ0 : Kap} {h0 : AHeap} {w0 : World} {K : Ex → Fr → AHeap → Prop} {E : List DDef → D → AHeap → Prop} {cfg : Cfg} {dr : Bool} {r : Nat} {ops : Array Oper} : ∀ (l : List Nat) (os : List OpI) (hc : l.mapM (compO P n cfg dr r ops) = some os) (κ : Kap) (h : AHeap) (w : World) (σ : Fr) (a : Act),
    Inv κ h w → Pre κ w σ n a → Ev κ0 h0 w0 κ h w → vcOps T os (K .normal) E σ h → wpOps P ops (QK κ0 h0 w0 n K E) l a w
  | [], os, hc, κ, h, w, σ, a, hi, hp, ev, hv => by
    simp at hc
    subst hc
    exact ⟨κ, h, σ, hv, hi, hp, ev⟩
  | j :: l, os, hc, κ, h, w, σ, a, hi, hp, ev, hv => by
    simp only [List.mapM_cons, Option.bind_eq_bind, Option.bind_eq_some_iff] at hc
    obtain ⟨oi, e1, os', e2, e3⟩ := hc
    cases e3
    rw [wpOps_cons]
    exact wpOp_of hT e1 hi hp ev hv fun κ' h' w' σ' a' k i' p' e' => ops_sound hT l os' e2 κ' h' w' σ' a' i' p' e' k
end Go.Proofs.YthpgepillaeldaaDoor.Zz
