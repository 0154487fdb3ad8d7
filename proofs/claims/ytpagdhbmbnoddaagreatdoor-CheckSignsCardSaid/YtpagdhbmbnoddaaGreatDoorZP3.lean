/- Contracts: a tree of its own. -/
import Derived.Test.YtpagdhbmbnoddaaGreatDoorZC14
import Derived.Test.YtpagdhbmbnoddaaGreatDoorZZC
import Derived.Test.YtpagdhbmbnoddaaGreatDoorZC0
import Derived.Test.YtpagdhbmbnoddaaGreatDoorZC12
set_option linter.unnecessarySimpa false
set_option linter.unusedVariables false
set_option linter.unusedSimpArgs false
set_option maxRecDepth 20000
namespace Go.Proofs.YtpagdhbmbnoddaaGreatDoor.Zz
noncomputable section
def p29c : Plan := ⟨⟨[], [(5, 2)], [], [], [], []⟩, [], [], false⟩
def s29c : Stm :=
 .seq (.ops [⟨.box (.t 0), some 1, none, false⟩,
 ⟨.alloc [(.int .i64 0), (.int .i64 0), (.str []), (.int .i64 0), .nilsl], some 2, none, false⟩])
 (.seq (.ops [⟨.mov (.c .nilsl), some 3, none, true⟩])
 (.seq (.seq (.ops [⟨.fieldAddr 4 (.t 1), some 6, none, true⟩,
 ⟨.load none (.t 6), some 7, none, false⟩,
 ⟨.len .sl (.t 7), some 8, none, false⟩,
 ⟨.mov (.c (.int .i64 0)), some 9, none, true⟩])
 (.block 0 (.loop (.seq (.ops [⟨.bin .lss (.t 9) (.t 8), some 10, none, true⟩])
 (.seq (.cond (.t 10)
 (.skip)
 (.exit 0))
 (.seq (.block 1 (.seq (.ops [⟨.indexAddrS 5 (.t 7) (.t 9), some 11, none, false⟩,
 ⟨.load (some 5) (.t 11), some 12, none, false⟩,
 ⟨.alloc [(.int .i64 0), (.int .i64 0), (.str []), (.int .i64 0), .nilsl], some 5, none, false⟩,
 ⟨.store 5 (.t 5) (.t 12), none, none, false⟩])
 (.ops [⟨.mov (.t 3), some 13, none, true⟩,
 ⟨.load (some 5) (.t 5), some 14, none, false⟩,
 ⟨.call (.f 29) [(.t 14)], some 15, none, false⟩,
 ⟨.buildSlice 5 [(.int .i64 0), (.int .i64 0), (.str []), (.int .i64 0), .nilsl] 1 [(0, (.t 15))] false, some 16, none, true⟩,
 ⟨.append 5 64 false (.t 13) (.t 16), some 17, none, false⟩,
 ⟨.mov (.t 17), some 3, none, true⟩])))
 (.ops [⟨.bin .add (.t 9) (.c (.int .i64 1)), some 18, none, true⟩,
 ⟨.mov (.t 18), some 9, none, true⟩])))))))
 (.seq (.ops [⟨.mov (.t 3), some 19, none, true⟩,
 ⟨.fieldAddr 4 (.t 1), some 20, none, true⟩,
 ⟨.store 1 (.t 20) (.t 19), none, none, false⟩])
 (.seq (.ops [⟨.load (some 5) (.t 1), some 21, none, false⟩,
 ⟨.store 5 (.t 2) (.t 21), none, none, false⟩])
 (.ret)))))
theorem st29c : stmOf Tryz.prog 29 p29c = some (s29c, [.cell 2 (some 5)], 22) := by kernel_rfl
def c29p (f : Nat) (args : List D) (h : AHeap) (K : D → AHeap → Prop) : Prop := ∃ n : Nd, args = [.agg n.enc] ∧ n.cnt < f ∧ K (.agg n.enc) h
theorem c29p_mono (f : Nat) (args : List D) (h : AHeap) (K K' : D → AHeap → Prop) (hk : ∀ d h, K d h → K' d h) (c : c29p f args h K) : c29p f args h K' := by
  obtain ⟨n, a, b, c⟩ := c
  exact ⟨n, a, b, hk _ _ c⟩
set_option maxHeartbeats 1000000 in
theorem clone29_step (f : Nat) (hf : f < 1000000000) (hT : (Tab.zero.addW 29 (c29p f) (c29p_mono f)).ok Tryz.prog) (n : Nd) (hn : n.cnt < f + 1) (h : AHeap) : ACalls Tryz.prog 29 [.agg n.enc] h fun o h' => ∃ d, o = .ret d ∧ d = .agg n.enc ∧ h' = h := by
  refine ACalls.runF hT st29c (by simp) ?_
  have hT_q : ∀ g args h K E, (Tab.zero.addW 29 (c29p f) (c29p_mono f)).c g args h K E = if g = 29 then c29p f args h K else Tab.zero.c g args h K E := fun g args h K E => rfl
  generalize Tab.zero.addW 29 (c29p f) (c29p_mono f) = TT at hT_q ⊢
  obtain ⟨k, t, x, m, l⟩ := n
  have hcnt : ∀ y ∈ l, y.cnt < f := fun y hy => by have := cnt_kid (k := k) (t := t) (s := x) (n := m) hy; omega
  have hln : l.length ≤ f := by rw [cnt_mk] at hn; have := cnts_len l; omega
  rw [enc_mk]
  simp (maxSteps := 1000000) only [s29c, hT_q, zzK, seval]
  intro i1 k1 i2 n1 n2 k2
  simp (maxSteps := 1000000) only [n1, n2, hT_q, zzK, seval]
  intro _
  refine run_loop (X := Nat × Nat × AHeap) (fun z => [(1, .ptr i1 1 0), (2, .ptr i2 1 0), (3, ownD z.2.1 z.1), (7, .sl (Nd.encs l)), (8, .int .i64 l.length), (9, .int .i64 z.1)]) (fun z => z.2.2) (fun z => l.length - z.1)
    (fun z => z.1 ≤ l.length ∧ z.2.2.f i1 = some (.cells [.int .i64 k, .int .i64 t, .str x, .int .i64 m, .sl (Nd.encs l)]) ∧ z.2.2.f i2 = some (.cells [.int .i64 0, .int .i64 0, .str [], .int .i64 0, .nilsl]) ∧
      (z.1 ≠ 0 → z.2.1 ≠ i1 ∧ z.2.1 ≠ i2 ∧ h.f z.2.1 = none ∧ z.2.2.f z.2.1 = some (.row 5 (z.1 + 2) (Nd.encs (l.take z.1)) false)) ∧ ∀ j, h.f j ≠ none → z.2.2.f j = h.f j) (0, 0, _) ⟨Nat.zero_le _, ?_, ?_, fun h => absurd rfl h, fun j hj => ?_⟩ ?_ (AHeap.sub_refl _) ?_
  · simp only [AHeap.set_f, n1, n2, ↓reduceIte]
  · simp only [AHeap.set_f, n1, n2, ↓reduceIte]
  · have e1 : ¬ j = i1 := fun e => hj (by rw [e]; exact k1)
    have e2 : ¬ j = i2 := fun e => hj (by rw [e]; exact k2)
    simp only [AHeap.set_f, e1, e2, ↓reduceIte]
  · simp only [ownD_zero, len_encs, zzK, seval]
  rintro ⟨i, r, hh⟩ Q ⟨j0, v1, v2, vr, vo⟩ hQ
  simp only at j0 v1 v2 vr vo hQ ⊢
  cases c : decide (i < l.length) with
  | false =>
    have e0 : i = l.length := by simp at c; omega
    have g : ((i : Int) < (l.length : Int)) = False := eq_false (by omega)
    by_cases h0 : l = []
    · subst h0
      simp only [List.length_nil] at e0
      subst e0
      simp (maxSteps := 1000000) only [g, v1, v2, n1, n2, encs_nil, ownD_zero, List.length_nil, hT_q, zzK, seval]
      refine ⟨h, fun j o hj => by
        have e1 : ¬ j = i1 := fun e => by rw [e, k1] at hj; cases hj
        have e2 : ¬ j = i2 := fun e => by rw [e, k2] at hj; cases hj
        simp only [AHeap.set_f, e1, e2, ↓reduceIte]
        rw [vo j (by rw [hj]; simp)]; exact hj, rfl⟩
    · have h1 : l.length ≠ 0 := fun e => h0 (List.length_eq_zero_iff.1 e)
      subst e0
      obtain ⟨r1, r2, r3, v4⟩ := vr h1
      have r1' : ¬ i1 = r := fun e => r1 e.symm
      have r2' : ¬ i2 = r := fun e => r2 e.symm
      rw [List.take_length] at v4
      simp (maxSteps := 1000000) only [g, v1, v2, v4, n1, n2, r1, r2, r1', r2', len_encs, ownD_pos h1, hT_q, zzK, seval]
      refine ⟨h, fun j o hj => by
        have e1 : ¬ j = i1 := fun e => by rw [e, k1] at hj; cases hj
        have e2 : ¬ j = i2 := fun e => by rw [e, k2] at hj; cases hj
        have e3 : ¬ j = r := fun e => by rw [e, r3] at hj; cases hj
        simp only [AHeap.set_f, e1, e2, e3, ↓reduceIte]
        rw [vo j (by rw [hj]; simp)]; exact hj, List.take_of_length_le (by rw [len_encs]; omega), rfl⟩
  | true =>
    have c : i < l.length := by simpa using c
    obtain ⟨y, hy⟩ : ∃ y, l[i]? = some y := ⟨_, List.getElem?_eq_getElem c⟩
    have g : ((i : Int) < (l.length : Int)) = True := eq_true (by omega)
    have hym : y ∈ l := List.mem_of_getElem? hy
    have wi : IntKind.i64.wrap ((i : Int) + 1) = ((i + 1 : Nat) : Int) := wrap_succ (by omega)
    have hp := part_enc y
    have hac : ∀ (K : D → AHeap → Prop) (h : AHeap), askE 5 K h (Nd.encs l) (i : Int) = K (.eptr y.enc 0) h := fun K h => askE_encs hy
    have hyc := hcnt y hym
    have hcall : ∀ (K : D → AHeap → Prop) (h : AHeap), K (.agg y.enc) h → c29p f [.agg y.enc] h K := fun K h k => ⟨y, rfl, hyc, k⟩
    have htk : Nd.encs (l.take (i + 1)) = Nd.encs (l.take i) ++ [y.enc] := by
      rw [List.take_add_one, hy, encs_snoc]; rfl
    have hy2 : y.enc.length = 5 ∧ y.enc.all cellOk = true := ⟨len_enc y, enc_ok y⟩
    have hxn : (Nd.encs (l.take i)).length = i := by rw [len_encs, List.length_take]; omega
    clear hy hym hyc
    obtain ⟨yk, yt, yx, ym, yl⟩ := y
    rw [enc_mk] at *
    simp (maxSteps := 1000000) only [g, v1, v2, hac, hp, wi, enc_unnil, len_encs, n1, n2, hT_q, zzK, seval]
    intro i5 k5
    have p1c : ¬ i5 = i1 := fun e => by subst e; rw [v1] at k5; cases k5
    have p2c : ¬ i5 = i2 := fun e => by subst e; rw [v2] at k5; cases k5
    have p1c' : ¬ i1 = i5 := fun e => p1c e.symm
    have p2c' : ¬ i2 = i5 := fun e => p2c e.symm
    refine hcall _ _ ?_
    simp (maxSteps := 1000000) only [hT_q, zzK, seval]
    refine app_own2c (b := 64) hxn (fun h0 => ?_) hy2 (by omega) (by omega) fun r' a1 a2 => ?_
    · have e : ¬ r = i5 := fun e => by rw [← e, (vr h0).2.2.2] at k5; cases k5
      rw [AHeap.set_f, if_neg e]
      exact (vr h0).2.2.2
    have a3 : r' ≠ i1 ∧ r' ≠ i2 ∧ h.f r' = none := by
      by_cases h0 : i = 0
      · have := a1 h0
        rw [AHeap.set_f] at this
        split at this
        · cases this
        · refine ⟨fun e => ?_, fun e => ?_, ?_⟩
          · subst e; rw [v1] at this; cases this
          · subst e; rw [v2] at this; cases this
          · by_cases e : h.f r' = none
            · exact e
            · rw [vo r' e] at this; exact this
      · rw [a2 h0]; exact ⟨(vr h0).1, (vr h0).2.1, (vr h0).2.2.1⟩
    obtain ⟨r1, r2, r3⟩ := a3
    have r1' : ¬ i1 = r' := fun e => r1 e.symm
    have r2' : ¬ i2 = r' := fun e => r2 e.symm
    simp (maxSteps := 1000000) only [v1, v2, wi, r1, r2, r1', r2', n1, n2, hT_q, zzK, seval]
    refine hQ (i + 1, r', _) _ _ ⟨c, ?_, ?_, fun _ => ⟨r1, r2, r3, ?_⟩, fun j hj => ?_⟩ (by simp only [ownD_pos (Nat.succ_ne_zero i), zzK, seval]) (AHeap.sub_refl _) (by simp only; omega)
    · simp only [AHeap.set_f, r1', p1c', v1, ↓reduceIte]
    · simp only [AHeap.set_f, r2', p2c', v2, ↓reduceIte]
    · simp only [AHeap.set_f, htk, ↓reduceIte]
    · have e1 : ¬ j = r' := fun e => hj (by rw [e]; exact r3)
      have e2 : ¬ j = i5 := fun e => hj (by rw [e]; by_cases q : h.f i5 = none; exact q; rw [vo i5 q] at k5; exact k5)
      simp only [AHeap.set_f, e1, e2, ↓reduceIte]
      exact vo j hj
theorem tb29C_ok : ∀ f, f ≤ 1000000000 → (Tab.zero.addW 29 (c29p f) (c29p_mono f)).ok Tryz.prog
  | 0, _ => Tab.addW_ok (Tab.zero_ok _) fun args h K c => by
    obtain ⟨n, _, hn, _⟩ := c
    omega
  | f + 1, hf => Tab.addW_ok (Tab.zero_ok _) fun args h K c => by
    obtain ⟨n, rfl, hn, hK⟩ := c
    exact (clone29_step f (by omega) (tb29C_ok f (by omega)) n hn h).mono fun o h' ⟨d, e1, e2, e3⟩ => ⟨d, e1, by rw [e2, e3]; exact hK⟩
def cCl (args : List D) (h : AHeap) (K : D → AHeap → Prop) : Prop := ∃ n : Nd, args = [.agg n.enc] ∧ n.cnt < 1000000000 ∧ K (.agg n.enc) h
theorem cCl_mono (args : List D) (h : AHeap) (K K' : D → AHeap → Prop) (hk : ∀ d h, K d h → K' d h) (c : cCl args h K) : cCl args h K' := by
  obtain ⟨n, a, b, c⟩ := c
  exact ⟨n, a, b, hk _ _ c⟩
theorem cCl_ok (args : List D) (h : AHeap) (K : D → AHeap → Prop) (c : cCl args h K) : ACalls Tryz.prog 29 args h fun o h' => ∃ d, o = .ret d ∧ K d h' := by
  obtain ⟨n, rfl, hn, c⟩ := c
  exact (clone29_step n.cnt hn (tb29C_ok n.cnt (by omega)) n (by omega) h).mono fun o h' ⟨d, e1, e2, e3⟩ => ⟨d, e1, by rw [e2, e3]; exact c⟩
def tb28c : Tab := Tab.zero.addQ 28 q28c
theorem tb28c_q (g : FuncId) (args : List D) : tb28c.q g args = if g = 28 then q28c args else Tab.zero.q g args := rfl
theorem tb28c_a : tb28c.a = Tab.zero.a := rfl
theorem tb28c_c : tb28c.c = Tab.zero.c := rfl
theorem tb28c_ok : tb28c.ok Tryz.prog := Tab.addQ_ok (Tab.zero_ok _) q28c_ok
theorem tb28c_e : type_of% (And.intro @tb28c_q (And.intro @tb28c_a @tb28c_c)) := (And.intro @tb28c_q (And.intro @tb28c_a @tb28c_c))
def tb29c : Tab := tb28c.addW 29 cCl cCl_mono
theorem tb29c_q : tb29c.q = tb28c.q := rfl
theorem tb29c_a : tb29c.a = tb28c.a := rfl
theorem tb29c_c (g : FuncId) (args : List D) (h : AHeap) (K E : D → AHeap → Prop) : tb29c.c g args h K E = if g = 29 then cCl args h K else tb28c.c g args h K E := rfl
theorem tb29c_ok : tb29c.ok Tryz.prog := Tab.addW_ok tb28c_ok cCl_ok
theorem tb29c_e : type_of% (And.intro (And.intro @tb29c_q (And.intro @tb29c_a @tb29c_c)) @tb28c_e) := (And.intro (And.intro @tb29c_q (And.intro @tb29c_a @tb29c_c)) @tb28c_e)
end
end Go.Proofs.YtpagdhbmbnoddaaGreatDoor.Zz
namespace Go.Proofs.YtpagdhbmbnoddaaGreatDoor.Zz
mutual
theorem exprF_cnt (ks : List Nd) (sc : Scp) : ∀ (x y : Nd), exprF ks sc x = .ok y → y.cnt = x.cnt
  | .mk k t s n l, y, h => by
    rw [exprF] at h
    cases hl : exprFs ks sc l with
    | error e => rw [hl] at h; cases h
    | ok l' =>
      rw [hl] at h
      simp only at h
      cases ht : typeF ks sc k t s l' with
      | error e => rw [ht] at h; cases h
      | ok t' =>
        rw [ht] at h
        cases h
        rw [cnt_mk, cnt_mk, exprFs_cnt ks sc l l' hl]
theorem exprFs_cnt (ks : List Nd) (sc : Scp) : ∀ (l l' : List Nd), exprFs ks sc l = .ok l' → Nd.cnts l' = Nd.cnts l
  | [], l', h => by rw [exprFs] at h; cases h; rfl
  | x :: l, l', h => by
    rw [exprFs] at h
    split at h
    · cases hx : exprF ks sc x with
      | error e => rw [hx] at h; cases h
      | ok x' =>
        rw [hx] at h
        simp only at h
        cases hl : exprFs ks sc l with
        | error e => rw [hl] at h; cases h
        | ok r =>
          rw [hl] at h
          cases h
          rw [cnts_cons, cnts_cons, exprF_cnt ks sc x x' hx, exprFs_cnt ks sc l r hl]
    · cases h
end
theorem typedF_cnt {ks : List Nd} {sc : Scp} {x y : Nd} {t : Int} (h : typedF ks sc x t = .ok y) : y.cnt = x.cnt := by
  unfold typedF at h
  split at h
  · cases hx : exprF ks sc x with
    | error e => rw [hx] at h; cases h
    | ok x' =>
      rw [hx] at h
      simp only at h
      split at h
      · cases h; exact exprF_cnt ks sc x _ hx
      · cases h
  · cases h
mutual
theorem stmtF_cnt (ks : List Nd) (ans : Int) : ∀ (x : Nd) (sc : Scp) (y : Nd) (sc' : Scp), stmtF ks ans x sc = .ok (y, sc') → y.cnt = x.cnt
  | .mk k t s n l, sc, y, sc', h => by
    rw [stmtF.eq_def] at h
    simp only at h
    split at h
    · split at h
      · cases h; rfl
      · cases h
    · split at h
      · cases hl : stmtsF ks ans l sc with
        | error e => rw [hl] at h; cases h
        | ok q =>
          obtain ⟨l', sc1⟩ := q
          rw [hl] at h
          cases h
          rw [cnt_mk, cnt_mk, stmtsF_cnt ks ans l sc l' sc1 hl]
      · split at h
        · cases l with
          | nil => cases h
          | cons x r =>
            simp only at h
            split at h
            · cases hx : typedF ks sc x 3 with
              | error e => rw [hx] at h; cases h
              | ok x' =>
                rw [hx] at h
                simp only at h
                cases hr : blocksF ks ans r sc with
                | error e => rw [hr] at h; cases h
                | ok r' =>
                  rw [hr] at h
                  cases h
                  rw [cnt_mk, cnt_mk, cnts_cons, cnts_cons, typedF_cnt hx, blocksF_cnt ks ans r sc r' hr]
            · cases h
        · split at h
          · split at h
            · split at h
              · cases h
              · rename_i x _
                cases hx : typedF ks sc x ans with
                | error e => rw [hx] at h; cases h
                | ok x' => rw [hx] at h; cases h; rw [cnt_mk, cnt_mk, cnts_cons, cnts_cons, typedF_cnt hx]
            · cases h
          · split at h
            · split at h
              · rename_i x
                cases hx : typedF ks sc x 3 with
                | error e => rw [hx] at h; cases h
                | ok x' => rw [hx] at h; cases h; rw [cnt_mk, cnt_mk, cnts_cons, cnts_cons, typedF_cnt hx]
              · cases h
            · split at h
              · split at h
                · split at h
                  · rename_i x _
                    cases hx : exprF ks sc x with
                    | error e => rw [hx] at h; cases h
                    | ok x' => rw [hx] at h; cases h; rw [cnt_mk, cnt_mk, cnts_cons, cnts_cons, exprF_cnt ks sc x x' hx]
                  · cases h
                · cases h
              · split at h
                · split at h
                  · split at h
                    · rename_i x _
                      cases hx : exprF ks sc x with
                      | error e => rw [hx] at h; cases h
                      | ok x' =>
                        have e := exprF_cnt ks sc x x' hx
                        rw [hx] at h
                        simp only at h
                        split at h
                        · split at h
                          · cases h; rw [cnt_mk, cnt_mk, cnts_cons, cnts_cons, e]
                          · cases h
                        · split at h
                          · split at h
                            · cases h; rw [cnt_mk, cnt_mk, cnts_cons, cnts_cons, e]
                            · cases h
                          · cases h
                    · cases h
                  · cases h
                · cases h
theorem stmtsF_cnt (ks : List Nd) (ans : Int) : ∀ (l : List Nd) (sc : Scp) (l' : List Nd) (sc' : Scp), stmtsF ks ans l sc = .ok (l', sc') → Nd.cnts l' = Nd.cnts l
  | [], sc, l', sc', h => by rw [stmtsF] at h; cases h; rfl
  | x :: l, sc, l', sc', h => by
    rw [stmtsF] at h
    cases hx : stmtF ks ans x sc with
    | error e => rw [hx] at h; cases h
    | ok q =>
      obtain ⟨x', sc1⟩ := q
      rw [hx] at h
      simp only at h
      cases hl : stmtsF ks ans l sc1 with
      | error e => rw [hl] at h; cases h
      | ok q =>
        obtain ⟨r, sc2⟩ := q
        rw [hl] at h
        cases h
        rw [cnts_cons, cnts_cons, stmtF_cnt ks ans x sc x' sc1 hx, stmtsF_cnt ks ans l sc1 r _ hl]
theorem blocksF_cnt (ks : List Nd) (ans : Int) : ∀ (l : List Nd) (sc : Scp) (l' : List Nd), blocksF ks ans l sc = .ok l' → Nd.cnts l' = Nd.cnts l
  | [], sc, l', h => by rw [blocksF] at h; cases h; rfl
  | .mk k t s n l :: r, sc, l', h => by
    rw [blocksF] at h
    split at h
    · cases hl : stmtsF ks ans l sc with
      | error e => rw [hl] at h; cases h
      | ok q =>
        obtain ⟨l1, sc1⟩ := q
        rw [hl] at h
        simp only at h
        cases hr : blocksF ks ans r sc with
        | error e => rw [hr] at h; cases h
        | ok r' =>
          rw [hr] at h
          cases h
          rw [cnts_cons, cnts_cons, cnt_mk, cnt_mk, stmtsF_cnt ks ans l sc l1 sc1 hl, blocksF_cnt ks ans r sc r' hr]
    · cases h
end
theorem blockF_cnt {ks : List Nd} {ans : Int} {x y : Nd} {sc : Scp} (h : blockF ks ans x sc = .ok y) : y.cnt = x.cnt := by
  obtain ⟨k, t, s, n, l⟩ := x
  unfold blockF at h
  split at h
  · simp only [Nd.kD, Nd.tD, Nd.sD, Nd.lD] at h
    cases hl : stmtsF ks ans l sc with
    | error e => rw [hl] at h; cases h
    | ok q =>
      obtain ⟨l', sc1⟩ := q
      rw [hl] at h
      cases h
      rw [cnt_mk, cnt_mk, stmtsF_cnt ks ans l sc l' sc1 hl]
  · cases h
theorem declF_cnt {ks : List Nd} {x y : Nd} (h : declF ks x = .ok y) : y.cnt = x.cnt := by
  obtain ⟨k, t, s, n, l⟩ := x
  rw [declF.eq_def] at h
  simp only at h
  split at h
  · cases h
  · split at h
    · split at h
      · split at h
        · rename_i x _ _
          cases hx : typedF ks [] x t with
          | error e => rw [hx] at h; cases h
          | ok x' => rw [hx] at h; cases h; rw [cnt_mk, cnt_mk, cnts_cons, cnts_cons, typedF_cnt hx]
        · cases h
      · cases h
    · split at h
      · split at h
        · rename_i x _
          cases hx : blockF ks 0 x [] with
          | error e => rw [hx] at h; cases h
          | ok x' => rw [hx] at h; cases h; rw [cnt_mk, cnt_mk, cnts_cons, cnts_cons, blockF_cnt hx]
        · cases h
      · split at h
        · split at h
          · cases h
          · rename_i b hb
            split at h
            · rename_i sc hsc
              cases hx : blockF ks t b sc with
              | error e => rw [hx] at h; cases h
              | ok b' =>
                rw [hx] at h
                simp only at h
                split at h
                · cases h
                  have el : l = l.dropLast ++ [b] := by
                    rcases List.eq_nil_or_concat l with rfl | ⟨L, c, rfl⟩
                    · cases hb
                    · simp at hb; subst hb; simp
                  have : Nd.cnts l = Nd.cnts (l.dropLast ++ [b]) := by rw [← el]
                  rw [cnt_mk, cnt_mk, this, cnts_app, cnts_app, cnts_cons, cnts_cons, blockF_cnt hx]
                · cases h
            · cases h
        · cases h
end Go.Proofs.YtpagdhbmbnoddaaGreatDoor.Zz
namespace Go.Proofs.YtpagdhbmbnoddaaGreatDoor.Zz
noncomputable section
def p14c : Plan := ⟨⟨[], [(13, 1)], [], [], [], []⟩, [], [], false⟩
def s14c : Stm :=
 .seq (.ops [⟨.box (.t 0), some 1, none, false⟩,
 ⟨.alloc [(.int .i64 0), (.int .i64 0), (.str []), (.int .i64 0), .nilsl], some 2, none, false⟩,
 ⟨.mov (.c (.int .i64 0)), some 3, none, true⟩,
 ⟨.mov (.c (.int .i64 0)), some 4, none, true⟩])
 (.seq (.seq (.ops [⟨.fieldAddr 0 (.t 1), some 9, none, true⟩,
 ⟨.load none (.t 9), some 10, none, false⟩,
 ⟨.bin .neq (.t 10) (.c (.int .i64 1)), some 11, none, true⟩])
 (.cond (.t 11)
 (.seq (.ops [⟨.build [(.int .i64 0), (.int .i64 0), (.str []), (.int .i64 0), .nilsl] [], some 12, none, true⟩,
 ⟨.store 5 (.t 2) (.t 12), none, none, false⟩,
 ⟨.mov (.c (.int .i64 0)), some 3, none, true⟩,
 ⟨.mov (.c (.int .i64 125)), some 4, none, true⟩])
 (.ret))
 (.skip)))
 (.seq (.ops [⟨.load (some 5) (.t 1), some 13, none, false⟩,
 ⟨.alloc [(.int .i64 0), (.int .i64 0), (.str []), (.int .i64 0), .nilsl], some 5, none, false⟩,
 ⟨.store 5 (.t 5) (.t 13), none, none, false⟩])
 (.seq (.ops [⟨.fieldAddr 4 (.t 5), some 14, none, true⟩,
 ⟨.store 1 (.t 14) (.c .nilsl), none, none, false⟩])
 (.seq (.seq (.ops [⟨.fieldAddr 4 (.t 1), some 15, none, true⟩,
 ⟨.load none (.t 15), some 16, none, false⟩,
 ⟨.len .sl (.t 16), some 17, none, false⟩,
 ⟨.mov (.c (.int .i64 0)), some 18, none, true⟩])
 (.block 0 (.loop (.seq (.ops [⟨.bin .lss (.t 18) (.t 17), some 19, none, true⟩])
 (.seq (.cond (.t 19)
 (.skip)
 (.exit 0))
 (.seq (.block 1 (.seq (.ops [⟨.mov (.t 18), some 20, none, true⟩,
 ⟨.mov (.t 20), some 6, none, true⟩])
 (.seq (.ops [⟨.load (some 5) (.t 1), some 22, none, false⟩,
 ⟨.mov (.t 6), some 23, none, true⟩,
 ⟨.qcall (.f 28) [(.t 22), (.t 23)], some 24, none, false⟩,
 ⟨.mov (.t 24), some 21, none, true⟩,
 ⟨.extract (.t 21) 0, some 25, none, true⟩,
 ⟨.extract (.t 21) 1, some 26, none, true⟩,
 ⟨.alloc [(.int .i64 0), (.int .i64 0), (.str []), (.int .i64 0), .nilsl], some 7, none, false⟩,
 ⟨.store 5 (.t 7) (.t 25), none, none, false⟩,
 ⟨.mov (.t 26), some 8, none, true⟩])
 (.seq (.seq (.ops [⟨.mov (.t 8), some 27, none, true⟩,
 ⟨.bin .neq (.t 27) (.c (.int .i64 0)), some 28, none, true⟩])
 (.cond (.t 28)
 (.seq (.ops [⟨.build [(.int .i64 0), (.int .i64 0), (.str []), (.int .i64 0), .nilsl] [], some 29, none, true⟩,
 ⟨.mov (.t 6), some 30, none, true⟩,
 ⟨.mov (.t 8), some 31, none, true⟩,
 ⟨.store 5 (.t 2) (.t 29), none, none, false⟩,
 ⟨.mov (.t 30), some 3, none, true⟩,
 ⟨.mov (.t 31), some 4, none, true⟩])
 (.ret))
 (.skip)))
 (.ops [⟨.fieldAddr 4 (.t 5), some 32, none, true⟩,
 ⟨.load none (.t 32), some 33, none, false⟩,
 ⟨.load (some 5) (.t 7), some 34, none, false⟩,
 ⟨.buildSlice 5 [(.int .i64 0), (.int .i64 0), (.str []), (.int .i64 0), .nilsl] 1 [(0, (.t 34))] false, some 35, none, true⟩,
 ⟨.append 5 64 false (.t 33) (.t 35), some 36, none, false⟩,
 ⟨.fieldAddr 4 (.t 5), some 37, none, true⟩,
 ⟨.store 1 (.t 37) (.t 36), none, none, false⟩])))))
 (.ops [⟨.bin .add (.t 18) (.c (.int .i64 1)), some 38, none, true⟩,
 ⟨.mov (.t 38), some 18, none, true⟩])))))))
 (.seq (.ops [⟨.load (some 5) (.t 5), some 39, none, false⟩,
 ⟨.call (.f 29) [(.t 39)], some 40, none, false⟩,
 ⟨.store 5 (.t 2) (.t 40), none, none, false⟩,
 ⟨.mov (.c (.int .i64 0)), some 3, none, true⟩,
 ⟨.mov (.c (.int .i64 0)), some 4, none, true⟩])
 (.ret))))))
theorem st14c : stmOf Tryz.prog 14 p14c = some (s14c, [.cell 2 (some 5), .tmp 3, .tmp 4], 41) := by kernel_rfl
theorem declsF_step {ks : List Nd} {i : Nat} {x : Nd} (hx : ks[i]? = some x) : declsF ks (ks.drop i) ((ks.take i).map Nd.sD) i = match oneF ks i with
    | .error e => (.error e, (i : Int))
    | .ok x' => match declsF ks (ks.drop (i + 1)) ((ks.take (i + 1)).map Nd.sD) ((i + 1 : Nat) : Int) with
      | (.ok l', j) => (.ok (x' :: l'), j)
      | r => r := by
  have e1 : ((ks.take i).map Nd.sD).contains x.sD = (ks.take i).any (fun y => y.sD == x.sD) := by
    rw [List.contains_eq_any_beq, List.any_map]
    congr 1
    funext y
    exact BEq.comm
  have e2 : (ks.take (i + 1)).map Nd.sD = (ks.take i).map Nd.sD ++ [x.sD] := by rw [List.take_add_one, hx]; simp
  rw [drop_consX hx, declsF, e1, e2, oneF, hx]
  simp only
  cases (ks.take i).any (fun y => y.sD == x.sD) with
  | true => rfl
  | false =>
    simp only [Bool.false_eq_true, if_false]
    cases declF ks x with
    | error e => rfl
    | ok x' => rfl
def afterD (ks : List Nd) (i : Nat) (done : List Nd) : CR (List Nd) × Int := match declsF ks (ks.drop i) ((ks.take i).map Nd.sD) i with
  | (.ok l', j) => (.ok (done ++ l'), j)
  | r => r
theorem afterD_end (ks : List Nd) (done : List Nd) : afterD ks ks.length done = (.ok done, (ks.length : Int)) := by
  rw [afterD, List.drop_length, declsF]; simp
theorem afterD_step {ks : List Nd} {i : Nat} {x : Nd} (hx : ks[i]? = some x) (done : List Nd) : afterD ks i done = match oneF ks i with
    | .error e => (.error e, (i : Int))
    | .ok x' => afterD ks (i + 1) (done ++ [x']) := by
  rw [afterD, declsF_step hx]
  cases oneF ks i with
  | error e => rfl
  | ok x' =>
    simp only [afterD]
    generalize declsF ks (ks.drop (i + 1)) ((ks.take (i + 1)).map Nd.sD) ((i + 1 : Nat) : Int) = q
    obtain ⟨r, j⟩ := q
    cases r <;> simp
theorem oneF_cnt {ks : List Nd} {i : Nat} {x y : Nd} (hx : ks[i]? = some x) (h : oneF ks i = .ok y) : y.cnt = x.cnt := by
  rw [oneF, hx] at h
  simp only at h
  split at h
  · cases h
  · exact declF_cnt h
def chkD (r : Nd × Int × Int) : D := .tuple [.agg r.1.enc, .int .i64 r.2.1, .int .i64 r.2.2]
def Why (p : Nd) : Prop := ∀ i e, oneF p.lD i = .error e → i < p.lD.length → e ≠ 0
set_option maxHeartbeats 1000000 in
theorem check_c (p : Nd) (hp : p.cnt ≤ 400000) (hw : Why p) : PCall Tryz.prog 14 [.agg p.enc] (chkD (checkF p)) := by
  refine PCall.run tb29c_ok st14c (by simp) fun E => ?_
  obtain ⟨k, t, s, n, ks⟩ := p
  have hks : ks.length ≤ 400000 := by rw [cnt_mk] at hp; have := cnts_len ks; omega
  have hq : ∀ i, i < ks.length → q28c [.agg [.int .i64 k, .int .i64 t, .str s, .int .i64 n, .sl (Nd.encs ks)], .int .i64 (i : Int)] = some (oneR (oneF ks i)) := fun i hi => by
    have := q28c_enc (p := .mk k t s n ks) (i := i) hi hp
    rwa [enc_mk] at this
  have hwf : ∀ i e, oneF ks i = .error e → i < ks.length → e ≠ 0 := hw
  have hA : checkF (.mk k t s n ks) = if k == 1 then (match afterD ks 0 [] with
    | (.ok l', _) => (.mk k t s n l', 0, 0)
    | (.error e, i) => (.mk 0 0 [] 0 [], i, e)) else (.mk 0 0 [] 0 [], 0, 125) := by
    rw [checkF, afterD, List.drop_zero, List.take_zero, List.map_nil, show ((0 : Nat) : Int) = 0 from rfl]
    cases declsF ks ks [] 0 with
    | mk r j => cases r <;> rfl
  rw [hA, enc_mk]
  cases k1 : (k == 1) with
  | false =>
    simp only [Bool.false_eq_true, if_false]
    have g : (k != 1) = true := by simp [bne, k1]
    simp (maxSteps := 1000000) only [s14c, k1, g, chkD, tb50c_e, tb29c_e, zzK, seval]
    intro i1  i2 a2_1 b2_1
    simp (maxSteps := 1000000) only [g, a2_1, b2_1, enc_mk, encs_nil, tb50c_e, tb29c_e, zzK, seval]
  | true =>
    simp only [if_true]
    have g : (k != 1) = false := by simp [bne, k1]
    simp (maxSteps := 1000000) only [s14c, k1, g, len_encs, tb50c_e, tb29c_e, zzK, seval]
    intro i1  i2 a2_1 b2_1
    simp (maxSteps := 1000000) only [g, a2_1, b2_1, len_encs, tb50c_e, tb29c_e, zzK, seval]
    intro i3 a3_2 b3_2 a3_1 b3_1
    simp (maxSteps := 1000000) only [g, a2_1, b2_1, a3_2, b3_2, a3_1, b3_1, len_encs, tb50c_e, tb29c_e, zzK, seval]
    intro _
    refine run_loop (X := Nat × Nat × List Nd × AHeap) (fun z => [(1, .ptr i1 1 0), (2, .ptr i2 1 0), (3, .int .i64 0), (4, .int .i64 0), (5, .ptr i3 1 0), (17, .int .i64 ks.length), (18, .int .i64 z.1)]) (fun z => z.2.2.2) (fun z => ks.length - z.1)
      (fun z => z.1 ≤ ks.length ∧ z.2.2.2.f i1 = some (.cells [.int .i64 k, .int .i64 t, .str s, .int .i64 n, .sl (Nd.encs ks)]) ∧ z.2.2.2.f i2 = some (.cells [.int .i64 0, .int .i64 0, .str [], .int .i64 0, .nilsl]) ∧
        z.2.2.2.f i3 = some (.cells [.int .i64 k, .int .i64 t, .str s, .int .i64 n, ownD z.2.1 z.1]) ∧ z.2.2.1.length = z.1 ∧ (z.1 ≠ 0 → z.2.2.2.f z.2.1 = some (.row 5 (z.1 + 2) (Nd.encs z.2.2.1) false)) ∧ afterD ks 0 [] = afterD ks z.1 z.2.2.1 ∧ Nd.cnts z.2.2.1 = Nd.cnts (ks.take z.1)) (0, 0, [], _) ⟨Nat.zero_le _, ?_, ?_, ?_, rfl, fun h => absurd rfl h, rfl, by simp only [List.take_zero]⟩ ?_ (AHeap.sub_refl _) ?_
    · simp [a2_1, b2_1, a3_2, b3_2, a3_1, b3_1]
    · simp [a2_1, b2_1, a3_2, b3_2, a3_1, b3_1]
    · simp [a2_1, b2_1, a3_2, b3_2, a3_1, b3_1, ownD_zero]
    · simp only [zzK, seval]
    rintro ⟨i, r, done, hh⟩ Q ⟨j0, v1, v2, v3, vd, vr, va, vc⟩ hQ
    simp only at j0 v1 v2 v3 vd vr va vc hQ ⊢
    cases c0c : decide (i < ks.length) with
    | true =>
      have c0c : i < ks.length := by simpa using c0c
      obtain ⟨x, hx⟩ : ∃ x, ks[i]? = some x := ⟨_, List.getElem?_eq_getElem c0c⟩
      have g : ((i : Int) < (ks.length : Int)) = True := eq_true (by omega)
      have wi : IntKind.i64.wrap ((i : Int) + 1) = ((i + 1 : Nat) : Int) := wrap_succ (by omega)
      have hqi := hq i c0c
      rw [afterD_step hx] at va
      cases ho : oneF ks i with
      | error e =>
        rw [ho] at va hqi
        simp only [oneR, zNode, enc_mk, encs_nil] at va hqi
        rw [va]
        have he : (e != 0) = true := by simpa using hwf i e ho c0c
        simp (maxSteps := 1000000) only [g, v1, v2, v3, hqi, he, chkD, enc_mk, encs_nil, tb50c_e, tb29c_e, zzK, seval]
        intro i7 k7
        have p2c : ¬ i2 = i7 := fun e => by rw [← e, v2] at k7; cases k7
        simp (maxSteps := 1000000) only [v2, p2c, tb50c_e, tb29c_e, zzK, seval]
      | ok y =>
        rw [ho] at va hqi
        simp only at va
        have hyc := oneF_cnt hx ho
        have hy2 : y.enc.length = 5 ∧ y.enc.all cellOk = true := ⟨len_enc y, enc_ok y⟩
        have hsn : ∀ l, Nd.encs l ++ [y.enc] = Nd.encs (l ++ [y]) := fun l => encs_snoc l y
        have hcn : Nd.cnts (done ++ [y]) = Nd.cnts (ks.take (i + 1)) := by rw [cnts_app, cnts_cons, cnts_nil, cnts_take hx, vc, hyc]; rfl
        generalize hdy : done ++ [y] = dn1 at hcn va
        have hdl : dn1.length = i + 1 := by rw [← hdy]; simp [vd]
        have hs2 : Nd.encs done ++ [y.enc] = Nd.encs dn1 := by rw [hsn, hdy]
        clear hsn hdy hyc ho
        obtain ⟨yk, yt, ys, yn, yl⟩ := y
        simp only [oneR, enc_mk] at hqi hy2 hs2
        simp (maxSteps := 1000000) only [g, v1, v2, v3, hqi, tb50c_e, tb29c_e, zzK, seval]
        intro i7 k7
        have ne_of : ∀ {q : Nat} {o : AObj}, hh.f q = some o → ¬ i7 = q := fun hq e => by rw [e, hq] at k7; cases k7
        have p1c := ne_of v1
        have p2c := ne_of v2
        have p3c := ne_of v3
        have p1c' : ¬ i1 = i7 := fun e => p1c e.symm
        have p2c' : ¬ i2 = i7 := fun e => p2c e.symm
        have p3c' : ¬ i3 = i7 := fun e => p3c e.symm
        simp (maxSteps := 1000000) only [v1, v2, v3, p1c, p2c, p3c, p1c', p2c', p3c', tb50c_e, tb29c_e, zzK, seval]
        have hxn : (Nd.encs done).length = i := by rw [len_encs, vd]
        refine app_own2c (b := 64) hxn (fun h0 => ?_) hy2 (by omega) (by omega) fun r' a1 a2 => ?_
        · rw [AHeap.set_f, if_neg fun e => ne_of (vr h0) e.symm]; exact vr h0
        have a3 : ∀ {q : Nat} {ds : List D}, hh.f q = some (.cells ds) → ¬ r' = q := fun {q ds} hq e => by
          by_cases h0 : i = 0
          · have := a1 h0
            rw [AHeap.set_f] at this
            split at this
            · cases this
            · rw [e, hq] at this; cases this
          · have := vr h0
            rw [← a2 h0, e, hq] at this; cases this
        have r1 := a3 v1
        have r2 := a3 v2
        have r3 := a3 v3
        have r1' : ¬ i1 = r' := fun e => r1 e.symm
        have r2' : ¬ i2 = r' := fun e => r2 e.symm
        have r3' : ¬ i3 = r' := fun e => r3 e.symm
        rw [hs2]
        simp (maxSteps := 1000000) only [v1, v2, v3, r1, r2, r3, r1', r2', r3', p1c, p2c, p3c, p1c', p2c', p3c', wi, tb50c_e, tb29c_e, zzK, seval]
        refine hQ (i + 1, r', dn1, _) _ _ ⟨c0c, ?_, ?_, ?_, hdl, fun _ => ?_, va, hcn⟩ (by simp only [ownD_pos (Nat.succ_ne_zero i), zzK, seval]) (AHeap.sub_refl _) (by simp only; omega)
        · simp [a2_1, b2_1, a3_2, b3_2, a3_1, b3_1, r1', p1c', v1]
        · simp [a2_1, b2_1, a3_2, b3_2, a3_1, b3_1, r2', p2c', v2]
        · simp [ownD_pos]
        · simp [r3]
    | false =>
      have e0 : i = ks.length := by simp at c0c; omega
      have g : ((i : Int) < (ks.length : Int)) = False := eq_false (by omega)
      subst e0
      rw [afterD_end] at va
      rw [va]
      rw [List.take_length] at vc
      have hcc : (Nd.mk k t s n done).cnt < 1000000000 := by rw [cnt_mk] at hp ⊢; omega
      by_cases h0 : ks.length = 0
      · have hd : done = [] := List.length_eq_zero_iff.1 (by omega)
        subst hd
        rw [h0, ownD_zero] at v3
        have g0 : ((0 : Int) < 0) = False := eq_false (by omega)
        simp (maxSteps := 1000000) only [h0, g0, v1, v2, v3, chkD, enc_mk, encs_nil, tb50c_e, tb29c_e, zzK, seval]
        refine ⟨.mk k t s n [], by rw [enc_mk, encs_nil], hcc, ?_⟩
        simp (maxSteps := 1000000) only [v1, v2, v3, enc_mk, encs_nil, tb50c_e, tb29c_e, zzK, seval]
      · have v4 := vr h0
        have r2 : ¬ r = i2 := fun e => by rw [e, v2] at v4; cases v4
        have r2' : ¬ i2 = r := fun e => r2 e.symm
        have hlen : (Nd.encs done).length = ks.length := by rw [len_encs, vd]
        rw [ownD_pos h0] at v3
        simp (maxSteps := 1000000) only [g, v1, v2, v3, v4, r2, r2', hlen, ownD_pos h0, chkD, enc_mk, tb50c_e, tb29c_e, zzK, seval]
        refine ⟨.mk k t s n done, by rw [enc_mk, List.take_of_length_le (by rw [hlen]; omega)], hcc, ?_⟩
        simp (maxSteps := 1000000) only [v1, v2, v3, v4, r2, r2', enc_mk, tb50c_e, tb29c_e, zzK, seval]
end
end Go.Proofs.YtpagdhbmbnoddaaGreatDoor.Zz
namespace Go.Proofs.YtpagdhbmbnoddaaGreatDoor.Zz
theorem varF_err {ks : List Nd} {sc : Scp} {s : List UInt8} {e : Int} (h : varF ks sc s = .error e) : e ≠ 0 := by
  unfold varF at h
  repeat' split at h
  all_goals (cases h; try decide)
theorem binF_err {s : List UInt8} {a b e : Int} (h : binF s a b = .error e) : e ≠ 0 := by
  unfold binF at h
  repeat' split at h
  all_goals (cases h; try decide)
theorem argsF_err : ∀ {a b : List Nd} {e : Int}, a.length ≤ b.length → argsF a b = .error e → e ≠ 0
  | [], b, e, hl, h => by rw [argsF] at h; cases h
  | x :: a, [], e, hl, h => by simp at hl
  | x :: a, y :: b, e, hl, h => by
    rw [argsF] at h
    split at h
    · exact argsF_err (by simpa using hl) h
    · cases h; decide
theorem callF_err {ks : List Nd} {s : List UInt8} {args : List Nd} {e : Int} (h : callF ks s args = .error e) : e ≠ 0 := by
  unfold callF at h
  split at h
  · cases h; decide
  · split at h
    · split at h
      · rename_i hl
        split at h
        · cases h
        · rename_i e' he
          cases h
          exact argsF_err (by have := beq_iff_eq.1 hl; omega) he
      · cases h; decide
    · cases h; decide
theorem typeF_err {ks : List Nd} {sc : Scp} {k t : Int} {s : List UInt8} {l : List Nd} {e : Int} (h : typeF ks sc k t s l = .error e) : e ≠ 0 := by
  unfold typeF at h
  repeat' split at h
  all_goals first
    | exact varF_err h
    | exact callF_err h
    | exact binF_err h
    | (cases h; try decide)
mutual
theorem exprF_err (ks : List Nd) (sc : Scp) : ∀ (x : Nd) (e : Int), exprF ks sc x = .error e → e ≠ 0
  | .mk k t s n l, e, h => by
    rw [exprF] at h
    cases hl : exprFs ks sc l with
    | error e' => rw [hl] at h; cases h; exact exprFs_err ks sc l _ hl
    | ok l' =>
      rw [hl] at h
      simp only at h
      cases ht : typeF ks sc k t s l' with
      | error e' => rw [ht] at h; cases h; exact typeF_err ht
      | ok t' => rw [ht] at h; cases h
theorem exprFs_err (ks : List Nd) (sc : Scp) : ∀ (l : List Nd) (e : Int), exprFs ks sc l = .error e → e ≠ 0
  | [], e, h => by rw [exprFs] at h; cases h
  | x :: l, e, h => by
    rw [exprFs] at h
    split at h
    · cases hx : exprF ks sc x with
      | error e' => rw [hx] at h; cases h; exact exprF_err ks sc x _ hx
      | ok x' =>
        rw [hx] at h
        simp only at h
        cases hl : exprFs ks sc l with
        | error e' => rw [hl] at h; cases h; exact exprFs_err ks sc l _ hl
        | ok r => rw [hl] at h; cases h
    · cases h; decide
end
theorem typedF_err {ks : List Nd} {sc : Scp} {x : Nd} {t e : Int} (h : typedF ks sc x t = .error e) : e ≠ 0 := by
  unfold typedF at h
  split at h
  · split at h
    · split at h
      · cases h
      · cases h; decide
    · rename_i e' hx
      cases h
      exact exprF_err ks sc x _ hx
  · cases h; decide
theorem defF_err {ks : List Nd} {sc : Scp} {s : List UInt8} {t e : Int} (h : defF ks sc s t = .error e) : e ≠ 0 := by
  unfold defF at h
  generalize ((findS sc s).isNone && (match findK ks s with | none => true | some o => o.kD != 2)) = b at h
  cases b with
  | false => cases h; decide
  | true => cases h
mutual
theorem stmtF_err (ks : List Nd) (ans : Int) : ∀ (x : Nd) (sc : Scp) (e : Int), stmtF ks ans x sc = .error e → e ≠ 0
  | .mk k t s n l, sc, e, h => by
    rw [stmtF.eq_def] at h
    simp only at h
    split at h
    · split at h <;> cases h
      decide
    · split at h
      · cases hl : stmtsF ks ans l sc with
        | error e' => rw [hl] at h; cases h; exact stmtsF_err ks ans l sc _ hl
        | ok q => obtain ⟨l', sc1⟩ := q; rw [hl] at h; cases h
      · split at h
        · cases l with
          | nil => cases h; decide
          | cons x r =>
            simp only at h
            split at h
            · cases hx : typedF ks sc x 3 with
              | error e' => rw [hx] at h; cases h; exact typedF_err hx
              | ok x' =>
                rw [hx] at h
                simp only at h
                cases hr : blocksF ks ans r sc with
                | error e' => rw [hr] at h; cases h; exact blocksF_err ks ans r sc _ hr
                | ok r' => rw [hr] at h; cases h
            · cases h; decide
        · (repeat' split at h)
          all_goals first
            | (cases h <;> first | decide | (rename_i q; exact typedF_err q) | (rename_i q; exact exprF_err ks sc _ _ q) | (rename_i q; exact defF_err q) | (rename_i q; exact varF_err q))
theorem stmtsF_err (ks : List Nd) (ans : Int) : ∀ (l : List Nd) (sc : Scp) (e : Int), stmtsF ks ans l sc = .error e → e ≠ 0
  | [], sc, e, h => by rw [stmtsF] at h; cases h
  | x :: l, sc, e, h => by
    rw [stmtsF] at h
    cases hx : stmtF ks ans x sc with
    | error e' => rw [hx] at h; cases h; exact stmtF_err ks ans x sc _ hx
    | ok q =>
      obtain ⟨x', sc1⟩ := q
      rw [hx] at h
      simp only at h
      cases hl : stmtsF ks ans l sc1 with
      | error e' => rw [hl] at h; cases h; exact stmtsF_err ks ans l sc1 _ hl
      | ok q => obtain ⟨r, sc2⟩ := q; rw [hl] at h; cases h
theorem blocksF_err (ks : List Nd) (ans : Int) : ∀ (l : List Nd) (sc : Scp) (e : Int), blocksF ks ans l sc = .error e → e ≠ 0
  | [], sc, e, h => by rw [blocksF] at h; cases h
  | .mk k t s n l :: r, sc, e, h => by
    rw [blocksF] at h
    split at h
    · cases hl : stmtsF ks ans l sc with
      | error e' => rw [hl] at h; cases h; exact stmtsF_err ks ans l sc _ hl
      | ok q =>
        obtain ⟨l1, sc1⟩ := q
        rw [hl] at h
        simp only at h
        cases hr : blocksF ks ans r sc with
        | error e' => rw [hr] at h; cases h; exact blocksF_err ks ans r sc _ hr
        | ok r' => rw [hr] at h; cases h
    · cases h; decide
end
theorem blockF_err {ks : List Nd} {ans : Int} {x : Nd} {sc : Scp} {e : Int} (h : blockF ks ans x sc = .error e) : e ≠ 0 := by
  unfold blockF at h
  split at h
  · cases hl : stmtsF ks ans x.lD sc with
    | error e' => rw [hl] at h; cases h; exact stmtsF_err ks ans _ sc _ hl
    | ok q => obtain ⟨l', sc1⟩ := q; rw [hl] at h; cases h
  · cases h; decide
theorem parsF_err {ks : List Nd} : ∀ {l : List Nd} {sc : Scp} {e : Int}, parsF ks l sc = .error e → e ≠ 0
  | [], sc, e, h => by rw [parsF] at h; cases h
  | x :: l, sc, e, h => by
    rw [parsF] at h
    split at h
    · split at h
      · split at h
        · exact parsF_err h
        · rename_i q; cases h; exact defF_err q
      · cases h; decide
    · cases h; decide
theorem declF_err {ks : List Nd} {x : Nd} {e : Int} (h : declF ks x = .error e) : e ≠ 0 := by
  obtain ⟨k, t, s, n, l⟩ := x
  rw [declF.eq_def] at h
  simp only at h
  repeat' split at h
  all_goals first
    | (cases h <;> first | decide | (rename_i q; exact typedF_err q) | (rename_i q; exact blockF_err q) | (rename_i q; exact parsF_err q))
end Go.Proofs.YtpagdhbmbnoddaaGreatDoor.Zz
namespace Go.Proofs.YtpagdhbmbnoddaaGreatDoor.Zz
noncomputable section
def p83p : Plan := ⟨⟨[], [(1, 1), (10, 1), (12, 1), (15, 2)], [], [], [], []⟩, [], [], false⟩
def s83p : Stm :=
 .seq (.ops [⟨.alloc [(.int .i64 0), (.int .i64 0), (.str []), (.int .i64 0), .nilsl], some 2, none, false⟩,
 ⟨.mov (.c (.bool false)), some 3, none, true⟩])
 (.seq (.ops [⟨.mov (.t 0), some 8, none, true⟩,
 ⟨.call (.f 33) [(.t 8)], some 9, none, false⟩,
 ⟨.alloc [(.int .i64 0), (.str []), (.int .i64 0)], some 4, none, false⟩,
 ⟨.store 3 (.t 4) (.t 9), none, none, false⟩])
 (.seq (.ops [⟨.alloc [(.int .i64 0), (.int .i64 0), (.str []), (.int .i64 0), .nilsl], some 5, none, false⟩])
 (.seq (.block 0 (.seq (.ops [⟨.fieldAddr 0 (.t 4), some 12, none, true⟩,
 ⟨.load none (.t 12), some 13, none, false⟩,
 ⟨.bin .eql (.t 13) (.c (.int .i64 2)), some 14, none, true⟩,
 ⟨.mov (.t 14), some 11, none, true⟩])
 (.cond (.t 11)
 (.seq (.ops [⟨.fieldAddr 1 (.t 4), some 16, none, true⟩,
 ⟨.load none (.t 16), some 17, none, false⟩,
 ⟨.qcall (.f 102) [(.t 17), (.c (.int .i64 10)), (.c (.int .i64 64))], some 18, none, false⟩,
 ⟨.mov (.t 18), some 15, none, true⟩,
 ⟨.extract (.t 15) 0, some 19, none, true⟩,
 ⟨.extract (.t 15) 1, some 20, none, true⟩,
 ⟨.mov (.t 19), some 6, none, true⟩,
 ⟨.mov (.t 20), some 7, none, true⟩])
 (.ops [⟨.mov (.t 6), some 21, none, true⟩,
 ⟨.build [(.int .i64 0), (.int .i64 0), (.str []), (.int .i64 0), .nilsl] [(0, 1, (.c (.int .i64 20))), (3, 1, (.t 21))], some 22, none, true⟩,
 ⟨.store 5 (.t 5) (.t 22), none, none, false⟩]))
 (.seq (.ops [⟨.fieldAddr 0 (.t 4), some 24, none, true⟩,
 ⟨.load none (.t 24), some 25, none, false⟩,
 ⟨.bin .eql (.t 25) (.c (.int .i64 3)), some 26, none, true⟩,
 ⟨.mov (.t 26), some 23, none, true⟩])
 (.cond (.t 23)
 (.seq (.ops [⟨.fieldAddr 1 (.t 4), some 27, none, true⟩,
 ⟨.load none (.t 27), some 28, none, false⟩,
 ⟨.qcall (.f 39) [(.t 28)], some 29, none, false⟩,
 ⟨.store 5 (.t 5) (.t 29), none, none, false⟩])
 (.ops [⟨.fieldAddr 1 (.t 5), some 30, none, true⟩,
 ⟨.store 1 (.t 30) (.c (.int .i64 0)), none, none, false⟩]))
 (.seq (.ops [⟨.mov (.t 0), some 32, none, true⟩,
 ⟨.call (.f 34) [(.t 32), (.c (.str [116, 114, 117, 101]))], some 33, none, false⟩,
 ⟨.mov (.t 33), some 31, none, true⟩])
 (.cond (.t 31)
 (.ops [⟨.build [(.int .i64 0), (.int .i64 0), (.str []), (.int .i64 0), .nilsl] [(0, 1, (.c (.int .i64 22))), (3, 1, (.c (.int .i64 1)))], some 34, none, true⟩,
 ⟨.store 5 (.t 5) (.t 34), none, none, false⟩])
 (.seq (.ops [⟨.mov (.t 0), some 36, none, true⟩,
 ⟨.call (.f 34) [(.t 36), (.c (.str [102, 97, 108, 115, 101]))], some 37, none, false⟩,
 ⟨.mov (.t 37), some 35, none, true⟩])
 (.cond (.t 35)
 (.ops [⟨.build [(.int .i64 0), (.int .i64 0), (.str []), (.int .i64 0), .nilsl] [(0, 1, (.c (.int .i64 22)))], some 38, none, true⟩,
 ⟨.store 5 (.t 5) (.t 38), none, none, false⟩])
 (.seq (.ops [⟨.load (some 5) (.t 5), some 10, none, false⟩,
 ⟨.store 5 (.t 2) (.t 10), none, none, false⟩,
 ⟨.mov (.c (.bool false)), some 3, none, true⟩])
 (.ret)))))))))))
 (.seq (.ops [⟨.mov (.t 0), some 39, none, true⟩,
 ⟨.nilCheck (.t 39), some 40, none, true⟩,
 ⟨.fieldAddr 1 (.t 40), some 41, none, true⟩,
 ⟨.load none (.t 41), some 42, none, false⟩,
 ⟨.bin .add (.t 42) (.c (.int .i64 1)), some 43, none, true⟩,
 ⟨.nilCheck (.t 39), some 44, none, true⟩,
 ⟨.fieldAddr 1 (.t 44), some 45, none, true⟩,
 ⟨.store 1 (.t 45) (.t 43), none, none, false⟩])
 (.seq (.ops [⟨.mov (.t 0), some 46, none, true⟩,
 ⟨.load (some 5) (.t 5), some 47, none, false⟩,
 ⟨.call (.f 32) [(.t 46), (.t 47)], some 48, none, false⟩,
 ⟨.store 5 (.t 2) (.t 48), none, none, false⟩,
 ⟨.mov (.c (.bool true)), some 3, none, true⟩])
 (.ret))))))
theorem st83p : stmOf Tryz.prog 83 p83p = some (s83p, [.cell 2 (some 5), .tmp 3], 49) := by kernel_rfl
theorem fold_ge : ∀ (l : List UInt8) (a : Nat), a ≤ l.foldl (fun n c => n * 10 + (c.toNat - 48)) a
  | [], a => Nat.le_refl _
  | c :: l, a => by
    rw [List.foldl_cons]
    have := fold_ge l (a * 10 + (c.toNat - 48))
    omega
theorem parseU_ok : ∀ (l : List UInt8) (a : Nat), l.all isDig = true → l.foldl (fun n c => n * 10 + (c.toNat - 48)) a < 9223372036854775808 → Lib.parseUintM 18446744073709551615 a l = .ok (l.foldl (fun n c => n * 10 + (c.toNat - 48)) a)
  | [], a, _, _ => rfl
  | c :: l, a, hd, hv => by
    rw [List.all_cons, Bool.and_eq_true] at hd
    rw [List.foldl_cons] at hv ⊢
    have g := fold_ge l (a * 10 + (c.toNat - 48))
    have hc := hd.1
    simp only [isDig, Bool.and_eq_true, decide_eq_true_eq] at hc
    rw [Lib.parseUintM, if_pos (by omega), if_neg (by omega), if_neg (by omega), parseU_ok l _ hd.2 hv]
theorem parseInt_c (s : List UInt8) (hd : s.all isDig = true) (hne : s ≠ []) (hl : s.length ≤ 4096) (hv : valF s < 9223372036854775808) : PCall Tryz.prog 102 [.str s, .int .i64 10, .int .i64 64] (.tuple [.int .i64 (valF s : Nat), .nilif]) := by
  have hp : Lib.parseIntB 64 s = .ok (valF s : Nat) := by
    cases s with
    | nil => exact absurd rfl hne
    | cons c r =>
      have hc := hd
      simp only [List.all_cons, isDig, Bool.and_eq_true, decide_eq_true_eq] at hc
      have n1 : ¬ c.toNat = 43 := by omega
      have n2 : ¬ c.toNat = 45 := by omega
      have hu : Lib.parseUintB 64 (c :: r) = .ok (valF (c :: r)) := by
        rw [Lib.parseUintB, if_neg (by simp)]
        exact parseU_ok (c :: r) 0 hd hv
      unfold Lib.parseIntB
      simp only [n1, n2, or_self, if_false, false_and, not_false_eq_true, true_and]
      rw [hu]
      simp only [Nat.reduceSub, Nat.reducePow]
      rw [if_neg (by omega)]
  refine PCall.of_below (by kernel_rfl) fun κ w vs hg hr _ => ?_
  obtain ⟨vl⟩ := vs
  cases hr with
  | cons r1 hr =>
    cases hr with
    | cons r2 hr =>
      cases hr with
      | cons r3 hr =>
        cases hr
        rw [rep_int_inv r2, rep_int_inv r3]
        cases r1 with
        | str _ h1 =>
        refine (Tryz.strconv_ParseInt_10_at64_ok ⟨s.toArray⟩ (by simp [ByteArray.size]; omega) _ (by simpa using hp) w).mono fun e w' ⟨e1, e2⟩ => ⟨_, e1, fun _ _ => RepL.tuple (.cons (.int _ _) (.cons .nilif .nil)), ?_⟩
        rcases e2 with e2 | ⟨t, e2⟩
        · rw [e2]; exact Go.RowKit.Below.refl _ _
        · rw [e2]; exact Lib.bytesWorld_below _ _ _
structure WOk (l : List Tok) : Prop where
  lo : LOk l
  whole : ∀ t ∈ l, t.1 = 2 → t.2.1.all isDig = true ∧ t.2.1 ≠ [] ∧ t.2.1.length ≤ 4096 ∧ valF t.2.1 < 9223372036854775808
  dot : ∀ t ∈ l, t.1 = 3 → ∃ A B, Dotted t.2.1 A B
open Classical in
def q102p : List D → Option D
  | [.str s, .int .i64 10, .int .i64 64] => if s.all isDig = true ∧ s ≠ [] ∧ s.length ≤ 4096 ∧ valF s < 9223372036854775808 then some (.tuple [.int .i64 (valF s : Nat), .nilif]) else none
  | _ => none
theorem q102p_ok (args : List D) (d : D) (h : q102p args = some d) : PCall Tryz.prog 102 args d := by
  unfold q102p at h
  split at h
  · split at h
    · rename_i c
      cases h
      exact parseInt_c _ c.1 c.2.1 c.2.2.1 c.2.2.2
    · cases h
  · cases h
open Classical in
def q39p : List D → Option D
  | [.str s] => if ∃ A B, Dotted s A B then some (.agg [.int .i64 21, .int .i64 2, .str (digF s), .int .i64 (bitsF (digF s)), .sl []]) else none
  | _ => none
theorem q39p_ok (args : List D) (d : D) (h : q39p args = some d) : PCall Tryz.prog 39 args d := by
  unfold q39p at h
  split at h
  · split at h
    · rename_i c
      cases h
      obtain ⟨A, B, c⟩ := c
      exact float_c _ A B c
    · cases h
  · cases h
def tb102p : Tab := tb86p.addQ 102 q102p
theorem tb102p_q (g : FuncId) (args : List D) : tb102p.q g args = if g = 102 then q102p args else tb86p.q g args := rfl
theorem tb102p_a : tb102p.a = tb86p.a := rfl
theorem tb102p_c : tb102p.c = tb86p.c := rfl
theorem tb102p_ok : tb102p.ok Tryz.prog := Tab.addQ_ok tb86p_ok q102p_ok
theorem tb102p_e : type_of% (And.intro (And.intro @tb102p_q (And.intro @tb102p_a @tb102p_c)) @tb86p_e) := (And.intro (And.intro @tb102p_q (And.intro @tb102p_a @tb102p_c)) @tb86p_e)
def tb39p : Tab := tb102p.addQ 39 q39p
theorem tb39p_q (g : FuncId) (args : List D) : tb39p.q g args = if g = 39 then q39p args else tb102p.q g args := rfl
theorem tb39p_a : tb39p.a = tb102p.a := rfl
theorem tb39p_c : tb39p.c = tb102p.c := rfl
theorem tb39p_ok : tb39p.ok Tryz.prog := Tab.addQ_ok tb102p_ok q39p_ok
theorem tb39p_e : type_of% (And.intro (And.intro @tb39p_q (And.intro @tb39p_a @tb39p_c)) @tb102p_e) := (And.intro (And.intro @tb39p_q (And.intro @tb39p_a @tb39p_c)) @tb102p_e)
theorem pNow_mem {l : List Tok} {s : PS} (ok : PSat l s) : pNow l s ∈ l := List.mem_of_getElem? (pNow_get ok)
theorem pStep_ok {l : List Tok} {s : PS} (hl : LOk l) (ok : PSok l s) (h : (pNow l s).1 ≠ 0) : PSok l (pStep s) := by
  have := hl.fin _ _ (pNow_get ok.at_) h
  obtain ⟨h1, h2, h3, h4, h5, h6⟩ := ok
  exact ⟨by simp only [pStep]; omega, by simp only [pStep]; omega, h3, h4, h5, h6⟩
set_option maxHeartbeats 1000000 in
theorem plain_c (l : List Tok) (hl : WOk l) (s : PS) (id : Nat) (ok : PSok l s) (K0 : Nd × Bool → PS → Prop) (E0 : Int → Int → Prop) (hw : wpR (pPlain l s) (fun x s' => PSok l s' → K0 x s') E0) : ACalls Tryz.prog 83 [.ptr id 1 0] (AHeap.emp.set id (pObj l s)) (retP (fun x : Nd × Bool => .tuple [.agg x.1.enc, .bool x.2]) l id K0 E0) := by
  refine ACalls.of_stmD tb39p_ok (dc := DTab.none) (fun _ _ => DTab.none_ok) (by kernel_rfl) st83p (by simp) ?_
  rw [vc_todo]
  have w1 : IntKind.i64.wrap (s.pos + 1) = s.pos + 1 := wrap_i64 (by have := ok.p0p; omega) (by have := ok.p1p; have := hl.lo.len; omega)
  simp (maxSteps := 1000000) only [s83p, tb39p_e, zzK, seval]
  intro i2 n1 n2
  refine ⟨l, s, id, rfl, by simp [n1, n2], ok.at_, ?_⟩
  have hmem := pNow_mem ok.at_
  have hwh := hl.whole _ hmem
  have hdt := hl.dot _ hmem
  have hst := pStep_ok hl.lo ok
  simp only [pPlain] at hw
  have hnow : ∀ x, pIs l x s = ((pNow l s).2.1 == x && ((pNow l s).1 == 5 || (pNow l s).1 == 4)) := fun _ => rfl
  generalize ht : pNow l s = t at *
  obtain ⟨kk, y, a⟩ := t
  simp only at hwh hdt hst hw hnow
  simp (maxSteps := 1000000) only [tokD, n1, n2, tb39p_e, zzK, seval]
  intro i4 m1 m2 m3 m4 i5 m5 m6 m7 m8 m9 m10
  cases c2p : (kk == 2) with
  | true =>
    rw [c2p, cond_true, wpR_bind] at hw
    have e2 : kk = 2 := by simpa using c2p
    obtain ⟨d1, d2, d3, d4⟩ := hwh e2
    have ok' := hst (by omega)
    have hq : q102p [.str y, .int .i64 10, .int .i64 64] = some (.tuple [.int .i64 (valF y : Nat), .nilif]) := if_pos ⟨d1, d2, d3, d4⟩
    simp (maxSteps := 1000000) only [c2p, hq, pObj, w1, n1, n2, m1, m2, m3, m4, m5, m6, m7, m8, m9, m10, tb39p_e, zzK, seval]
    refine .inl ⟨l, pStep s, id, .mk 20 0 [] (valF y : Nat) [], by simp only [enc_mk, encs_nil], hl.lo, by simp [pObj, pStep, n1, n2, m1, m2, m3, m4, m5, m6, m7, m8, m9, m10], ok', wpR_mono (fun n s1p k ok1 => ?_) (fun a e k s' => ?_) hw⟩
    · obtain ⟨nk, nt, ns, nm, nl⟩ := n
      simp (maxSteps := 1000000) only [enc_mk, n1, n2, m1, m2, m3, m4, m5, m6, m7, m8, m9, m10, retD_ret, leav_nil, finD, tb39p_e, zzK, seval]
      exact mid_ret (x := (.mk nk nt ns nm nl, true)) (s' := s1p) (by rw [enc_mk]) (by simp [n1, n2, m1, m2, m3, m4, m5, m6, m7, m8, m9, m10]) (k ok1)
    · simp only [panD, leav_nil, finD]
      exact mid_pan (s' := s') (by simp [n1, n2, m1, m2, m3, m4, m5, m6, m7, m8, m9, m10]) k
  | false =>
    rw [c2p, cond_false] at hw
    cases c3p : (kk == 3) with
    | true =>
      rw [c3p, cond_true, wpR_bind] at hw
      have e3 : kk = 3 := by simpa using c3p
      have hd := hdt e3
      have ok' := hst (by omega)
      have hq : q39p [.str y] = some (.agg [.int .i64 21, .int .i64 2, .str (digF y), .int .i64 (bitsF (digF y)), .sl []]) := if_pos hd
      simp (maxSteps := 1000000) only [c2p, c3p, hq, pObj, w1, n1, n2, m1, m2, m3, m4, m5, m6, m7, m8, m9, m10, tb39p_e, zzK, seval]
      refine .inl ⟨l, pStep s, id, floatN y, by simp only [floatN, enc_mk, encs_nil], hl.lo, by simp [pObj, pStep, n1, n2, m1, m2, m3, m4, m5, m6, m7, m8, m9, m10], ok', wpR_mono (fun n s1p k ok1 => ?_) (fun a e k s' => ?_) hw⟩
      · obtain ⟨nk, nt, ns, nm, nl⟩ := n
        simp (maxSteps := 1000000) only [enc_mk, n1, n2, m1, m2, m3, m4, m5, m6, m7, m8, m9, m10, retD_ret, leav_nil, finD, tb39p_e, zzK, seval]
        exact mid_ret (x := (.mk nk nt ns nm nl, true)) (s' := s1p) (by rw [enc_mk]) (by simp [n1, n2, m1, m2, m3, m4, m5, m6, m7, m8, m9, m10]) (k ok1)
      · simp only [panD, leav_nil, finD]
        exact mid_pan (s' := s') (by simp [n1, n2, m1, m2, m3, m4, m5, m6, m7, m8, m9, m10]) k
    | false =>
      rw [c3p, cond_false] at hw
      simp (maxSteps := 1000000) only [c2p, c3p, n1, n2, m1, m2, m3, m4, m5, m6, m7, m8, m9, m10, tb39p_e, zzK, seval]
      refine ⟨l, s, id, wTrue, rfl, by simp [n1, n2, m1, m2, m3, m4, m5, m6, m7, m8, m9, m10], ok.at_, ?_⟩
      cases c4p : pIs l wTrue s with
      | true =>
        rw [c4p, cond_true, wpR_bind] at hw
        have ok' := pIs_fin hl.lo ok c4p
        simp (maxSteps := 1000000) only [pObj, w1, n1, n2, m1, m2, m3, m4, m5, m6, m7, m8, m9, m10, tb39p_e, zzK, seval]
        refine .inl ⟨l, pStep s, id, .mk 22 0 [] 1 [], by simp only [enc_mk, encs_nil], hl.lo, by simp [pObj, pStep, n1, n2, m1, m2, m3, m4, m5, m6, m7, m8, m9, m10], ok', wpR_mono (fun n s1p k ok1 => ?_) (fun a e k s' => ?_) hw⟩
        · obtain ⟨nk, nt, ns, nm, nl⟩ := n
          simp (maxSteps := 1000000) only [enc_mk, n1, n2, m1, m2, m3, m4, m5, m6, m7, m8, m9, m10, retD_ret, leav_nil, finD, tb39p_e, zzK, seval]
          exact mid_ret (x := (.mk nk nt ns nm nl, true)) (s' := s1p) (by rw [enc_mk]) (by simp [n1, n2, m1, m2, m3, m4, m5, m6, m7, m8, m9, m10]) (k ok1)
        · simp only [panD, leav_nil, finD]
          exact mid_pan (s' := s') (by simp [n1, n2, m1, m2, m3, m4, m5, m6, m7, m8, m9, m10]) k
      | false =>
        rw [c4p, cond_false] at hw
        simp (maxSteps := 1000000) only [n1, n2, m1, m2, m3, m4, m5, m6, m7, m8, m9, m10, tb39p_e, zzK, seval]
        refine ⟨l, s, id, wFalse, rfl, by simp [n1, n2, m1, m2, m3, m4, m5, m6, m7, m8, m9, m10], ok.at_, ?_⟩
        cases c5p : pIs l wFalse s with
        | true =>
          rw [c5p, cond_true, wpR_bind] at hw
          have ok' := pIs_fin hl.lo ok c5p
          simp (maxSteps := 1000000) only [pObj, w1, n1, n2, m1, m2, m3, m4, m5, m6, m7, m8, m9, m10, tb39p_e, zzK, seval]
          refine .inl ⟨l, pStep s, id, .mk 22 0 [] 0 [], by simp only [enc_mk, encs_nil], hl.lo, by simp [pObj, pStep, n1, n2, m1, m2, m3, m4, m5, m6, m7, m8, m9, m10], ok', wpR_mono (fun n s1p k ok1 => ?_) (fun a e k s' => ?_) hw⟩
          · obtain ⟨nk, nt, ns, nm, nl⟩ := n
            simp (maxSteps := 1000000) only [enc_mk, n1, n2, m1, m2, m3, m4, m5, m6, m7, m8, m9, m10, retD_ret, leav_nil, finD, tb39p_e, zzK, seval]
            exact mid_ret (x := (.mk nk nt ns nm nl, true)) (s' := s1p) (by rw [enc_mk]) (by simp [n1, n2, m1, m2, m3, m4, m5, m6, m7, m8, m9, m10]) (k ok1)
          · simp only [panD, leav_nil, finD]
            exact mid_pan (s' := s') (by simp [n1, n2, m1, m2, m3, m4, m5, m6, m7, m8, m9, m10]) k
        | false =>
          rw [c5p, cond_false, wpR_ok] at hw
          simp (maxSteps := 1000000) only [n1, n2, m1, m2, m3, m4, m5, m6, m7, m8, m9, m10, retD_ret, leav_nil, finD, tb39p_e, zzK, seval]
          exact mid_ret' (x := (.mk 0 0 [] 0 [], false)) (s' := s) (by rw [enc_mk, encs_nil]) (by simp [n1, n2, m1, m2, m3, m4, m5, m6, m7, m8, m9, m10]) (hw ok)
def cPlain (args : List D) (h : AHeap) (K E : D → AHeap → Prop) : Prop := ∃ (l : List Tok) (s : PS) (id : Nat) , args = [.ptr id 1 0] ∧ WOk l ∧ cP (pPlain l) (fun x : Nd × Bool => .tuple [.agg x.1.enc, .bool x.2]) l s id h K E
theorem cPlain_mono (args : List D) (h : AHeap) (K E K' E' : D → AHeap → Prop) (hk : ∀ d h, K d h → K' d h) (he : ∀ d h, E d h → E' d h) (c : cPlain args h K E) : cPlain args h K' E' := by
  obtain ⟨l, s, id, a, b, c⟩ := c
  exact ⟨l, s, id, a, b, cP_mono hk he c⟩
theorem cPlain_ok (args : List D) (h : AHeap) (K E : D → AHeap → Prop) (c : cPlain args h K E) : ACalls Tryz.prog 83 args h (AOut.to K E) := by
  obtain ⟨l, s, id, rfl, hl, c⟩ := c
  exact cP_ok (fun ok K0 E0 hw => plain_c l hl s id  ok K0 E0 hw) c
def tb83p : Tab := tb39p.addE 83 cPlain cPlain_mono
theorem tb83p_q : tb83p.q = tb39p.q := rfl
theorem tb83p_a : tb83p.a = tb39p.a := rfl
theorem tb83p_c (g : FuncId) (args : List D) (h : AHeap) (K E : D → AHeap → Prop) : tb83p.c g args h K E = if g = 83 then cPlain args h K E else tb39p.c g args h K E := rfl
theorem tb83p_ok : tb83p.ok Tryz.prog := Tab.addE_ok tb39p_ok cPlain_ok
theorem tb83p_e : type_of% (And.intro (And.intro @tb83p_q (And.intro @tb83p_a @tb83p_c)) @tb39p_e) := (And.intro (And.intro @tb83p_q (And.intro @tb83p_a @tb83p_c)) @tb39p_e)
end
end Go.Proofs.YtpagdhbmbnoddaaGreatDoor.Zz
