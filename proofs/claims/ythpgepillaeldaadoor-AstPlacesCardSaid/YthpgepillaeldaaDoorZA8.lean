/- Contracts: a tree of its own. -/
import Derived.Test.YthpgepillaeldaaDoorZZC
set_option linter.unnecessarySimpa false
namespace Go.Proofs.YthpgepillaeldaaDoor.Zz
noncomputable section
set_option linter.unusedVariables false
set_option linter.unusedSimpArgs false
set_option maxRecDepth 20000
def p18n : Plan := ⟨⟨[], [(5, 2)], [], [], [], []⟩, [], [], false⟩
/-- cupel/ast.Clone (1 parameters, 0 captured) -/
def s18n : Stm :=
  .seq (.ops [⟨.box (.t 0), (some 1), none, false⟩,
     ⟨.alloc [(.int .i64 0), (.int .i64 0), (.str []), (.int .i64 0), .nilsl], (some 2), none, false⟩])
  (.seq (.ops [⟨.mov (.c .nilsl), (some 3), none, true⟩])
  (.seq (.seq (.ops [⟨.fieldAddr 4 (.t 1), (some 6), none, true⟩,
      ⟨.load none (.t 6), (some 7), none, false⟩,
      ⟨.len .sl (.t 7), (some 8), none, false⟩,
      ⟨.mov (.c (.int .i64 0)), (some 9), none, true⟩])
   (.block 0 (.loop (.seq (.ops [⟨.bin .lss (.t 9) (.t 8), (some 10), none, true⟩])
     (.seq (.cond (.t 10)
       (.skip)
       (.exit 0))
     (.seq (.block 1 (.seq (.ops [⟨.indexAddrS 5 (.t 7) (.t 9), (some 11), none, false⟩,
          ⟨.load (some 5) (.t 11), (some 12), none, false⟩,
          ⟨.alloc [(.int .i64 0), (.int .i64 0), (.str []), (.int .i64 0), .nilsl], (some 5), none, false⟩,
          ⟨.store 5 (.t 5) (.t 12), none, none, false⟩])
       (.ops [⟨.mov (.t 3), (some 13), none, true⟩,
         ⟨.load (some 5) (.t 5), (some 14), none, false⟩,
         ⟨.call (.f 18) [(.t 14)], (some 15), none, false⟩,
         ⟨.buildSlice 5 [(.int .i64 0), (.int .i64 0), (.str []), (.int .i64 0), .nilsl] 1 [(0, (.t 15))] false, (some 16), none, true⟩,
         ⟨.append 5 64 false (.t 13) (.t 16), (some 17), none, false⟩,
         ⟨.mov (.t 17), (some 3), none, true⟩])))
     (.ops [⟨.bin .add (.t 9) (.c (.int .i64 1)), (some 18), none, true⟩,
       ⟨.mov (.t 18), (some 9), none, true⟩])))))))
  (.seq (.ops [⟨.mov (.t 3), (some 19), none, true⟩,
     ⟨.fieldAddr 4 (.t 1), (some 20), none, true⟩,
     ⟨.store 1 (.t 20) (.t 19), none, none, false⟩])
  (.seq (.ops [⟨.load (some 5) (.t 1), (some 21), none, false⟩,
     ⟨.store 5 (.t 2) (.t 21), none, none, false⟩])
  (.ret)))))
theorem st18n : stmOf Tryd.prog 18 p18n = some (s18n, [.cell 2 (some 5)], 22) := by kernel_rfl

def c18p (f : Nat) (args : List D) (h : AHeap) (K : D → AHeap → Prop) : Prop := ∃ n : Nd, args = [.agg n.enc] ∧ n.cnt < f ∧ K (.agg n.enc) h
theorem c18p_mono (f : Nat) (args : List D) (h : AHeap) (K K' : D → AHeap → Prop) (hk : ∀ d h, K d h → K' d h) (c : c18p f args h K) : c18p f args h K' := by
  obtain ⟨n, a, b, c⟩ := c
  exact ⟨n, a, b, hk _ _ c⟩
def encO : Nd → Nat → List D
  | .mk k t s n l, r => [.int .i64 k, .int .i64 t, .str s, .int .i64 n, ownD r l.length]
def Nd.kids : Nd → List Nd
  | .mk _ _ _ _ l => l
set_option maxHeartbeats 1000000 in
theorem clone_step (f : Nat) (hf : f < 1000000000) (hT : (Tab.zero.addW 18 (c18p f) (c18p_mono f)).ok Tryd.prog) (n : Nd) (hn : n.cnt < f + 1) (h : AHeap) : ACalls Tryd.prog 18 [.agg n.enc] h fun o h' => ∃ d, o = .ret d ∧ d = .agg n.enc ∧ h' = h := by
  refine ACalls.runF hT st18n (by simp) ?_
  have hT_q : ∀ g args h K E, (Tab.zero.addW 18 (c18p f) (c18p_mono f)).c g args h K E = if g = 18 then c18p f args h K else Tab.zero.c g args h K E := fun g args h K E => rfl
  generalize Tab.zero.addW 18 (c18p f) (c18p_mono f) = TT at hT_q ⊢
  obtain ⟨k, t, x, m, l⟩ := n
  have hcnt : ∀ y ∈ l, y.cnt < f := fun y hy => by have := cnt_kid (k := k) (t := t) (s := x) (n := m) hy; omega
  have hln : l.length ≤ f := by rw [cnt_mk] at hn; have := cnts_len l; omega
  rw [enc_mk]
  simp (config := {maxSteps := 1000000}) only [s18n, hT_q, i_callNe, Int.natCast_nonneg, Nat.le_refl, Int.le_refl, List.take_succ_cons, List.take_zero, decide_true, decide_false, Bool.and_false, Bool.false_and, zz, zzN, zzF, zzD, zzM, cond_true, cond_false, ↓reduceIte, Nat.reduceEqDiff, Nat.reduceBEq, Int.reduceLT, Int.reduceLE, Int.reduceToNat, Int.reduceEq, Int.reduceAdd, Int.reduceSub, Int.reduceMul, Int.reduceNeg, Nat.reduceMul, Nat.reduceSub, Nat.reduceLeDiff, Nat.reduceLT, Int.reduceGT, Int.reduceGE, Int.reduceBEq, Int.reduceBNe, reduceCtorEq, Nat.reduceAdd]
  intro i1 k1 i2 n1 n2 k2
  simp (config := {maxSteps := 1000000}) only [n1, n2, hT_q, i_callNe, Int.natCast_nonneg, Nat.le_refl, Int.le_refl, List.take_succ_cons, List.take_zero, decide_true, decide_false, Bool.and_false, Bool.false_and, zz, zzN, zzF, zzD, zzM, cond_true, cond_false, ↓reduceIte, Nat.reduceEqDiff, Nat.reduceBEq, Int.reduceLT, Int.reduceLE, Int.reduceToNat, Int.reduceEq, Int.reduceAdd, Int.reduceSub, Int.reduceMul, Int.reduceNeg, Nat.reduceMul, Nat.reduceSub, Nat.reduceLeDiff, Nat.reduceLT, Int.reduceGT, Int.reduceGE, Int.reduceBEq, Int.reduceBNe, reduceCtorEq, Nat.reduceAdd]
  intro _
  refine run_loop (X := Nat × Nat × AHeap) (fun z => [(1, .ptr i1 1 0), (2, .ptr i2 1 0), (3, ownD z.2.1 z.1), (7, .sl (Nd.encs l)), (8, .int .i64 l.length), (9, .int .i64 z.1)]) (fun z => z.2.2) (fun z => l.length - z.1)
    (fun z => z.1 ≤ l.length ∧ z.2.2.f i1 = some (.cells [.int .i64 k, .int .i64 t, .str x, .int .i64 m, .sl (Nd.encs l)]) ∧ z.2.2.f i2 = some (.cells [.int .i64 0, .int .i64 0, .str [], .int .i64 0, .nilsl]) ∧
      (z.1 ≠ 0 → z.2.1 ≠ i1 ∧ z.2.1 ≠ i2 ∧ h.f z.2.1 = none ∧ z.2.2.f z.2.1 = some (.row 5 (z.1 + 2) (Nd.encs (l.take z.1)) false)) ∧ ∀ j, h.f j ≠ none → z.2.2.f j = h.f j) (0, 0, _) ⟨Nat.zero_le _, ?_, ?_, fun h => absurd rfl h, fun j hj => ?_⟩ ?_ (AHeap.sub_refl _) ?_
  · simp only [AHeap.set_f, n1, n2, ↓reduceIte]
  · simp only [AHeap.set_f, n1, n2, ↓reduceIte]
  · have e1 : ¬ j = i1 := fun e => hj (by rw [e]; exact k1)
    have e2 : ¬ j = i2 := fun e => hj (by rw [e]; exact k2)
    simp only [AHeap.set_f, e1, e2, ↓reduceIte]
  · simp only [ownD_zero, len_encs, i_callNe, Int.natCast_nonneg, Nat.le_refl, Int.le_refl, List.take_succ_cons, List.take_zero, decide_true, decide_false, Bool.and_false, Bool.false_and, zz, zzN, zzF, zzD, zzM, cond_true, cond_false, ↓reduceIte, Nat.reduceEqDiff, Nat.reduceBEq, Int.reduceLT, Int.reduceLE, Int.reduceToNat, Int.reduceEq, Int.reduceAdd, Int.reduceSub, Int.reduceMul, Int.reduceNeg, Nat.reduceMul, Nat.reduceSub, Nat.reduceLeDiff, Nat.reduceLT, Int.reduceGT, Int.reduceGE, Int.reduceBEq, Int.reduceBNe, reduceCtorEq, Nat.reduceAdd]
  rintro ⟨i, r, hh⟩ Q ⟨j0, v1, v2, vr, vo⟩ hQ
  simp only at j0 v1 v2 vr vo hQ ⊢
  cases c : decide (i < l.length) with
  | false =>
    have e0 : i = l.length := by simp at c; omega
    have g : ((i : Int) < (l.length : Int)) = False := eq_false (by omega)
    by_cases h0 : l = []
    · subst h0
      simp only [List.length_nil] at e0
      subst e0
      simp (config := {maxSteps := 1000000}) only [g, v1, v2, n1, n2, encs_nil, ownD_zero, List.length_nil, hT_q, i_callNe, Int.natCast_nonneg, Nat.le_refl, Int.le_refl, List.take_succ_cons, List.take_zero, decide_true, decide_false, Bool.and_false, Bool.false_and, zz, zzN, zzF, zzD, zzM, cond_true, cond_false, ↓reduceIte, Nat.reduceEqDiff, Nat.reduceBEq, Int.reduceLT, Int.reduceLE, Int.reduceToNat, Int.reduceEq, Int.reduceAdd, Int.reduceSub, Int.reduceMul, Int.reduceNeg, Nat.reduceMul, Nat.reduceSub, Nat.reduceLeDiff, Nat.reduceLT, Int.reduceGT, Int.reduceGE, Int.reduceBEq, Int.reduceBNe, reduceCtorEq, Nat.reduceAdd]
      refine ⟨h, fun j o hj => by
        have e1 : ¬ j = i1 := fun e => by rw [e, k1] at hj; cases hj
        have e2 : ¬ j = i2 := fun e => by rw [e, k2] at hj; cases hj
        simp only [AHeap.set_f, e1, e2, ↓reduceIte]
        rw [vo j (by rw [hj]; simp)]; exact hj, rfl⟩
    · have h1 : l.length ≠ 0 := fun e => h0 (List.length_eq_zero_iff.1 e)
      subst e0
      obtain ⟨r1, r2, r3, v4⟩ := vr h1
      have r1' : ¬ i1 = r := fun e => r1 e.symm
      have r2' : ¬ i2 = r := fun e => r2 e.symm
      rw [List.take_length] at v4
      simp (config := {maxSteps := 1000000}) only [g, v1, v2, v4, n1, n2, r1, r2, r1', r2', len_encs, ownD_pos h1, hT_q, i_callNe, Int.natCast_nonneg, Nat.le_refl, Int.le_refl, List.take_succ_cons, List.take_zero, decide_true, decide_false, Bool.and_false, Bool.false_and, zz, zzN, zzF, zzD, zzM, cond_true, cond_false, ↓reduceIte, Nat.reduceEqDiff, Nat.reduceBEq, Int.reduceLT, Int.reduceLE, Int.reduceToNat, Int.reduceEq, Int.reduceAdd, Int.reduceSub, Int.reduceMul, Int.reduceNeg, Nat.reduceMul, Nat.reduceSub, Nat.reduceLeDiff, Nat.reduceLT, Int.reduceGT, Int.reduceGE, Int.reduceBEq, Int.reduceBNe, reduceCtorEq, Nat.reduceAdd]
      refine ⟨h, fun j o hj => by
        have e1 : ¬ j = i1 := fun e => by rw [e, k1] at hj; cases hj
        have e2 : ¬ j = i2 := fun e => by rw [e, k2] at hj; cases hj
        have e3 : ¬ j = r := fun e => by rw [e, r3] at hj; cases hj
        simp only [AHeap.set_f, e1, e2, e3, ↓reduceIte]
        rw [vo j (by rw [hj]; simp)]; exact hj, List.take_of_length_le (by rw [len_encs]; omega), rfl⟩
  | true =>
    have c : i < l.length := by simpa using c
    obtain ⟨y, hy⟩ : ∃ y, l[i]? = some y := ⟨_, List.getElem?_eq_getElem c⟩
    have g : ((i : Int) < (l.length : Int)) = True := eq_true (by omega)
    have hym : y ∈ l := List.mem_of_getElem? hy
    have wi : IntKind.i64.wrap ((i : Int) + 1) = ((i + 1 : Nat) : Int) := wrap_succ (by omega)
    have hp := part_enc y
    have hac : ∀ (K : D → AHeap → Prop) (h : AHeap), askE 5 K h (Nd.encs l) (i : Int) = K (.eptr y.enc 0) h := fun K h => askE_encs hy
    have hyc := hcnt y hym
    have hcall : ∀ (K : D → AHeap → Prop) (h : AHeap), K (.agg y.enc) h → c18p f [.agg y.enc] h K := fun K h k => ⟨y, rfl, hyc, k⟩
    have htk : Nd.encs (l.take (i + 1)) = Nd.encs (l.take i) ++ [y.enc] := by
      rw [List.take_add_one, hy, encs_snoc]; rfl
    have hy2 : y.enc.length = 5 ∧ y.enc.all cellOk = true := ⟨len_enc y, enc_ok y⟩
    have hxn : (Nd.encs (l.take i)).length = i := by rw [len_encs, List.length_take]; omega
    clear hy hym hyc
    obtain ⟨yk, yt, yx, ym, yl⟩ := y
    rw [enc_mk] at *
    simp (config := {maxSteps := 1000000}) only [g, v1, v2, hac, hp, wi, enc_unnil, len_encs, n1, n2, hT_q, i_callNe, Int.natCast_nonneg, Nat.le_refl, Int.le_refl, List.take_succ_cons, List.take_zero, decide_true, decide_false, Bool.and_false, Bool.false_and, zz, zzN, zzF, zzD, zzM, cond_true, cond_false, ↓reduceIte, Nat.reduceEqDiff, Nat.reduceBEq, Int.reduceLT, Int.reduceLE, Int.reduceToNat, Int.reduceEq, Int.reduceAdd, Int.reduceSub, Int.reduceMul, Int.reduceNeg, Nat.reduceMul, Nat.reduceSub, Nat.reduceLeDiff, Nat.reduceLT, Int.reduceGT, Int.reduceGE, Int.reduceBEq, Int.reduceBNe, reduceCtorEq, Nat.reduceAdd]
    intro i5 k5
    have p1n : ¬ i5 = i1 := fun e => by subst e; rw [v1] at k5; cases k5
    have p2n : ¬ i5 = i2 := fun e => by subst e; rw [v2] at k5; cases k5
    have p1n' : ¬ i1 = i5 := fun e => p1n e.symm
    have p2n' : ¬ i2 = i5 := fun e => p2n e.symm
    refine hcall _ _ ?_
    simp (config := {maxSteps := 1000000}) only [hT_q, i_callNe, Int.natCast_nonneg, Nat.le_refl, Int.le_refl, List.take_succ_cons, List.take_zero, decide_true, decide_false, Bool.and_false, Bool.false_and, zz, zzN, zzF, zzD, zzM, cond_true, cond_false, ↓reduceIte, Nat.reduceEqDiff, Nat.reduceBEq, Int.reduceLT, Int.reduceLE, Int.reduceToNat, Int.reduceEq, Int.reduceAdd, Int.reduceSub, Int.reduceMul, Int.reduceNeg, Nat.reduceMul, Nat.reduceSub, Nat.reduceLeDiff, Nat.reduceLT, Int.reduceGT, Int.reduceGE, Int.reduceBEq, Int.reduceBNe, reduceCtorEq, Nat.reduceAdd]
    refine app_own2 (b := 64) hxn (fun h0 => ?_) hy2 (by omega) (by omega) fun r' a1 a2 => ?_
    · have e : ¬ r = i5 := fun e => by rw [← e, (vr h0).2.2.2] at k5; cases k5
      rw [AHeap.set_f, if_neg e]
      exact (vr h0).2.2.2
    have a3 : r' ≠ i1 ∧ r' ≠ i2 ∧ h.f r' = none := by
      by_cases h0 : i = 0
      · have := a1 h0
        rw [AHeap.set_f] at this
        split at this
        · cases this
        · refine ⟨fun e => ?_, fun e => ?_, ?_⟩
          · subst e; rw [v1] at this; cases this
          · subst e; rw [v2] at this; cases this
          · by_cases e : h.f r' = none
            · exact e
            · rw [vo r' e] at this; exact this
      · rw [a2 h0]; exact ⟨(vr h0).1, (vr h0).2.1, (vr h0).2.2.1⟩
    obtain ⟨r1, r2, r3⟩ := a3
    have r1' : ¬ i1 = r' := fun e => r1 e.symm
    have r2' : ¬ i2 = r' := fun e => r2 e.symm
    simp (config := {maxSteps := 1000000}) only [v1, v2, wi, r1, r2, r1', r2', n1, n2, hT_q, i_callNe, Int.natCast_nonneg, Nat.le_refl, Int.le_refl, List.take_succ_cons, List.take_zero, decide_true, decide_false, Bool.and_false, Bool.false_and, zz, zzN, zzF, zzD, zzM, cond_true, cond_false, ↓reduceIte, Nat.reduceEqDiff, Nat.reduceBEq, Int.reduceLT, Int.reduceLE, Int.reduceToNat, Int.reduceEq, Int.reduceAdd, Int.reduceSub, Int.reduceMul, Int.reduceNeg, Nat.reduceMul, Nat.reduceSub, Nat.reduceLeDiff, Nat.reduceLT, Int.reduceGT, Int.reduceGE, Int.reduceBEq, Int.reduceBNe, reduceCtorEq, Nat.reduceAdd]
    refine hQ (i + 1, r', _) _ _ ⟨c, ?_, ?_, fun _ => ⟨r1, r2, r3, ?_⟩, fun j hj => ?_⟩ (by simp only [ownD_pos (Nat.succ_ne_zero i), i_callNe, Int.natCast_nonneg, Nat.le_refl, Int.le_refl, List.take_succ_cons, List.take_zero, decide_true, decide_false, Bool.and_false, Bool.false_and, zz, zzN, zzF, zzD, zzM, cond_true, cond_false, ↓reduceIte, Nat.reduceEqDiff, Nat.reduceBEq, Int.reduceLT, Int.reduceLE, Int.reduceToNat, Int.reduceEq, Int.reduceAdd, Int.reduceSub, Int.reduceMul, Int.reduceNeg, Nat.reduceMul, Nat.reduceSub, Nat.reduceLeDiff, Nat.reduceLT, Int.reduceGT, Int.reduceGE, Int.reduceBEq, Int.reduceBNe, reduceCtorEq, Nat.reduceAdd]) (AHeap.sub_refl _) (by simp only; omega)
    · simp only [AHeap.set_f, r1', p1n', v1, ↓reduceIte]
    · simp only [AHeap.set_f, r2', p2n', v2, ↓reduceIte]
    · simp only [AHeap.set_f, htk, ↓reduceIte]
    · have e1 : ¬ j = r' := fun e => hj (by rw [e]; exact r3)
      have e2 : ¬ j = i5 := fun e => hj (by rw [e]; by_cases q : h.f i5 = none; exact q; rw [vo i5 q] at k5; exact k5)
      simp only [AHeap.set_f, e1, e2, ↓reduceIte]
      exact vo j hj
set_option maxHeartbeats 1000000 in
theorem cloneL_step (f : Nat) (hf : f < 1000000000) (hT : (Tab.zero.addW 18 (c18p f) (c18p_mono f)).ok Tryd.prog) (n : Nd) (hn : n.cnt < f + 1) (h : AHeap) : ACalls Tryd.prog 18 [.agg n.enc] h fun o h' => ∃ d, o = .ret d ∧ ∃ r, d = .agg (encO n r) ∧ (n.kids ≠ [] → h.f r = none ∧ h'.f r = some (.row 5 (n.kids.length + 2) (Nd.encs n.kids) false)) ∧ ∀ j, h.f j ≠ none → h'.f j = h.f j := by
  refine ACalls.run hT st18n (by simp) fun E => ?_
  have hT_q : ∀ g args h K E, (Tab.zero.addW 18 (c18p f) (c18p_mono f)).c g args h K E = if g = 18 then c18p f args h K else Tab.zero.c g args h K E := fun g args h K E => rfl
  generalize Tab.zero.addW 18 (c18p f) (c18p_mono f) = TT at hT_q ⊢
  obtain ⟨k, t, x, m, l⟩ := n
  have hcnt : ∀ y ∈ l, y.cnt < f := fun y hy => by have := cnt_kid (k := k) (t := t) (s := x) (n := m) hy; omega
  have hln : l.length ≤ f := by rw [cnt_mk] at hn; have := cnts_len l; omega
  rw [enc_mk]
  simp (config := {maxSteps := 1000000}) only [s18n, hT_q, i_callNe, Int.natCast_nonneg, Nat.le_refl, Int.le_refl, List.take_succ_cons, List.take_zero, decide_true, decide_false, Bool.and_false, Bool.false_and, zz, zzN, zzF, zzD, zzM, cond_true, cond_false, ↓reduceIte, Nat.reduceEqDiff, Nat.reduceBEq, Int.reduceLT, Int.reduceLE, Int.reduceToNat, Int.reduceEq, Int.reduceAdd, Int.reduceSub, Int.reduceMul, Int.reduceNeg, Nat.reduceMul, Nat.reduceSub, Nat.reduceLeDiff, Nat.reduceLT, Int.reduceGT, Int.reduceGE, Int.reduceBEq, Int.reduceBNe, reduceCtorEq, Nat.reduceAdd]
  intro i1 k1 i2 n1 n2 k2
  simp (config := {maxSteps := 1000000}) only [n1, n2, hT_q, i_callNe, Int.natCast_nonneg, Nat.le_refl, Int.le_refl, List.take_succ_cons, List.take_zero, decide_true, decide_false, Bool.and_false, Bool.false_and, zz, zzN, zzF, zzD, zzM, cond_true, cond_false, ↓reduceIte, Nat.reduceEqDiff, Nat.reduceBEq, Int.reduceLT, Int.reduceLE, Int.reduceToNat, Int.reduceEq, Int.reduceAdd, Int.reduceSub, Int.reduceMul, Int.reduceNeg, Nat.reduceMul, Nat.reduceSub, Nat.reduceLeDiff, Nat.reduceLT, Int.reduceGT, Int.reduceGE, Int.reduceBEq, Int.reduceBNe, reduceCtorEq, Nat.reduceAdd]
  intro _
  refine run_loop (X := Nat × Nat × AHeap) (fun z => [(1, .ptr i1 1 0), (2, .ptr i2 1 0), (3, ownD z.2.1 z.1), (7, .sl (Nd.encs l)), (8, .int .i64 l.length), (9, .int .i64 z.1)]) (fun z => z.2.2) (fun z => l.length - z.1)
    (fun z => z.1 ≤ l.length ∧ z.2.2.f i1 = some (.cells [.int .i64 k, .int .i64 t, .str x, .int .i64 m, .sl (Nd.encs l)]) ∧ z.2.2.f i2 = some (.cells [.int .i64 0, .int .i64 0, .str [], .int .i64 0, .nilsl]) ∧
      (z.1 ≠ 0 → z.2.1 ≠ i1 ∧ z.2.1 ≠ i2 ∧ h.f z.2.1 = none ∧ z.2.2.f z.2.1 = some (.row 5 (z.1 + 2) (Nd.encs (l.take z.1)) false)) ∧ ∀ j, h.f j ≠ none → z.2.2.f j = h.f j) (0, 0, _) ⟨Nat.zero_le _, ?_, ?_, fun h => absurd rfl h, fun j hj => ?_⟩ ?_ (AHeap.sub_refl _) ?_
  · simp only [AHeap.set_f, n1, n2, ↓reduceIte]
  · simp only [AHeap.set_f, n1, n2, ↓reduceIte]
  · have e1 : ¬ j = i1 := fun e => hj (by rw [e]; exact k1)
    have e2 : ¬ j = i2 := fun e => hj (by rw [e]; exact k2)
    simp only [AHeap.set_f, e1, e2, ↓reduceIte]
  · simp only [ownD_zero, len_encs, i_callNe, Int.natCast_nonneg, Nat.le_refl, Int.le_refl, List.take_succ_cons, List.take_zero, decide_true, decide_false, Bool.and_false, Bool.false_and, zz, zzN, zzF, zzD, zzM, cond_true, cond_false, ↓reduceIte, Nat.reduceEqDiff, Nat.reduceBEq, Int.reduceLT, Int.reduceLE, Int.reduceToNat, Int.reduceEq, Int.reduceAdd, Int.reduceSub, Int.reduceMul, Int.reduceNeg, Nat.reduceMul, Nat.reduceSub, Nat.reduceLeDiff, Nat.reduceLT, Int.reduceGT, Int.reduceGE, Int.reduceBEq, Int.reduceBNe, reduceCtorEq, Nat.reduceAdd]
  rintro ⟨i, r, hh⟩ Q ⟨j0, v1, v2, vr, vo⟩ hQ
  simp only at j0 v1 v2 vr vo hQ ⊢
  cases c : decide (i < l.length) with
  | false =>
    have e0 : i = l.length := by simp at c; omega
    have g : ((i : Int) < (l.length : Int)) = False := eq_false (by omega)
    by_cases h0 : l = []
    · subst h0
      simp only [List.length_nil] at e0
      subst e0
      simp (config := {maxSteps := 1000000}) only [g, v1, v2, n1, n2, encs_nil, ownD_zero, List.length_nil, hT_q, i_callNe, Int.natCast_nonneg, Nat.le_refl, Int.le_refl, List.take_succ_cons, List.take_zero, decide_true, decide_false, Bool.and_false, Bool.false_and, zz, zzN, zzF, zzD, zzM, cond_true, cond_false, ↓reduceIte, Nat.reduceEqDiff, Nat.reduceBEq, Int.reduceLT, Int.reduceLE, Int.reduceToNat, Int.reduceEq, Int.reduceAdd, Int.reduceSub, Int.reduceMul, Int.reduceNeg, Nat.reduceMul, Nat.reduceSub, Nat.reduceLeDiff, Nat.reduceLT, Int.reduceGT, Int.reduceGE, Int.reduceBEq, Int.reduceBNe, reduceCtorEq, Nat.reduceAdd]
      refine ⟨0, rfl, fun h => absurd rfl h, fun j hj => ?_⟩
      have e1 : ¬ j = i1 := fun e => hj (by rw [e]; exact k1)
      have e2 : ¬ j = i2 := fun e => hj (by rw [e]; exact k2)
      rw [if_neg e2, if_neg e1]
      exact vo j hj
    · have h1 : l.length ≠ 0 := fun e => h0 (List.length_eq_zero_iff.1 e)
      subst e0
      obtain ⟨r1, r2, r3, v4⟩ := vr h1
      have r1' : ¬ i1 = r := fun e => r1 e.symm
      have r2' : ¬ i2 = r := fun e => r2 e.symm
      rw [List.take_length] at v4
      simp (config := {maxSteps := 1000000}) only [g, v1, v2, v4, n1, n2, r1, r2, r1', r2', len_encs, ownD_pos h1, hT_q, i_callNe, Int.natCast_nonneg, Nat.le_refl, Int.le_refl, List.take_succ_cons, List.take_zero, decide_true, decide_false, Bool.and_false, Bool.false_and, zz, zzN, zzF, zzD, zzM, cond_true, cond_false, ↓reduceIte, Nat.reduceEqDiff, Nat.reduceBEq, Int.reduceLT, Int.reduceLE, Int.reduceToNat, Int.reduceEq, Int.reduceAdd, Int.reduceSub, Int.reduceMul, Int.reduceNeg, Nat.reduceMul, Nat.reduceSub, Nat.reduceLeDiff, Nat.reduceLT, Int.reduceGT, Int.reduceGE, Int.reduceBEq, Int.reduceBNe, reduceCtorEq, Nat.reduceAdd]
      refine ⟨r, by rw [encO, ownD_pos h1], fun _ => ⟨r3, by rw [if_neg r2, if_neg r1]; exact v4⟩, fun j hj => ?_⟩
      have e1 : ¬ j = i1 := fun e => hj (by rw [e]; exact k1)
      have e2 : ¬ j = i2 := fun e => hj (by rw [e]; exact k2)
      rw [if_neg e2, if_neg e1]
      exact vo j hj
  | true =>
    have c : i < l.length := by simpa using c
    obtain ⟨y, hy⟩ : ∃ y, l[i]? = some y := ⟨_, List.getElem?_eq_getElem c⟩
    have g : ((i : Int) < (l.length : Int)) = True := eq_true (by omega)
    have hym : y ∈ l := List.mem_of_getElem? hy
    have wi : IntKind.i64.wrap ((i : Int) + 1) = ((i + 1 : Nat) : Int) := wrap_succ (by omega)
    have hp := part_enc y
    have hac : ∀ (K : D → AHeap → Prop) (h : AHeap), askE 5 K h (Nd.encs l) (i : Int) = K (.eptr y.enc 0) h := fun K h => askE_encs hy
    have hyc := hcnt y hym
    have hcall : ∀ (K : D → AHeap → Prop) (h : AHeap), K (.agg y.enc) h → c18p f [.agg y.enc] h K := fun K h k => ⟨y, rfl, hyc, k⟩
    have htk : Nd.encs (l.take (i + 1)) = Nd.encs (l.take i) ++ [y.enc] := by
      rw [List.take_add_one, hy, encs_snoc]; rfl
    have hy2 : y.enc.length = 5 ∧ y.enc.all cellOk = true := ⟨len_enc y, enc_ok y⟩
    have hxn : (Nd.encs (l.take i)).length = i := by rw [len_encs, List.length_take]; omega
    clear hy hym hyc
    obtain ⟨yk, yt, yx, ym, yl⟩ := y
    rw [enc_mk] at *
    simp (config := {maxSteps := 1000000}) only [g, v1, v2, hac, hp, wi, enc_unnil, len_encs, n1, n2, hT_q, i_callNe, Int.natCast_nonneg, Nat.le_refl, Int.le_refl, List.take_succ_cons, List.take_zero, decide_true, decide_false, Bool.and_false, Bool.false_and, zz, zzN, zzF, zzD, zzM, cond_true, cond_false, ↓reduceIte, Nat.reduceEqDiff, Nat.reduceBEq, Int.reduceLT, Int.reduceLE, Int.reduceToNat, Int.reduceEq, Int.reduceAdd, Int.reduceSub, Int.reduceMul, Int.reduceNeg, Nat.reduceMul, Nat.reduceSub, Nat.reduceLeDiff, Nat.reduceLT, Int.reduceGT, Int.reduceGE, Int.reduceBEq, Int.reduceBNe, reduceCtorEq, Nat.reduceAdd]
    intro i5 k5
    have p1n : ¬ i5 = i1 := fun e => by subst e; rw [v1] at k5; cases k5
    have p2n : ¬ i5 = i2 := fun e => by subst e; rw [v2] at k5; cases k5
    have p1n' : ¬ i1 = i5 := fun e => p1n e.symm
    have p2n' : ¬ i2 = i5 := fun e => p2n e.symm
    refine hcall _ _ ?_
    simp (config := {maxSteps := 1000000}) only [hT_q, i_callNe, Int.natCast_nonneg, Nat.le_refl, Int.le_refl, List.take_succ_cons, List.take_zero, decide_true, decide_false, Bool.and_false, Bool.false_and, zz, zzN, zzF, zzD, zzM, cond_true, cond_false, ↓reduceIte, Nat.reduceEqDiff, Nat.reduceBEq, Int.reduceLT, Int.reduceLE, Int.reduceToNat, Int.reduceEq, Int.reduceAdd, Int.reduceSub, Int.reduceMul, Int.reduceNeg, Nat.reduceMul, Nat.reduceSub, Nat.reduceLeDiff, Nat.reduceLT, Int.reduceGT, Int.reduceGE, Int.reduceBEq, Int.reduceBNe, reduceCtorEq, Nat.reduceAdd]
    refine app_own2 (b := 64) hxn (fun h0 => ?_) hy2 (by omega) (by omega) fun r' a1 a2 => ?_
    · have e : ¬ r = i5 := fun e => by rw [← e, (vr h0).2.2.2] at k5; cases k5
      rw [AHeap.set_f, if_neg e]
      exact (vr h0).2.2.2
    have a3 : r' ≠ i1 ∧ r' ≠ i2 ∧ h.f r' = none := by
      by_cases h0 : i = 0
      · have := a1 h0
        rw [AHeap.set_f] at this
        split at this
        · cases this
        · refine ⟨fun e => ?_, fun e => ?_, ?_⟩
          · subst e; rw [v1] at this; cases this
          · subst e; rw [v2] at this; cases this
          · by_cases e : h.f r' = none
            · exact e
            · rw [vo r' e] at this; exact this
      · rw [a2 h0]; exact ⟨(vr h0).1, (vr h0).2.1, (vr h0).2.2.1⟩
    obtain ⟨r1, r2, r3⟩ := a3
    have r1' : ¬ i1 = r' := fun e => r1 e.symm
    have r2' : ¬ i2 = r' := fun e => r2 e.symm
    simp (config := {maxSteps := 1000000}) only [v1, v2, wi, r1, r2, r1', r2', n1, n2, hT_q, i_callNe, Int.natCast_nonneg, Nat.le_refl, Int.le_refl, List.take_succ_cons, List.take_zero, decide_true, decide_false, Bool.and_false, Bool.false_and, zz, zzN, zzF, zzD, zzM, cond_true, cond_false, ↓reduceIte, Nat.reduceEqDiff, Nat.reduceBEq, Int.reduceLT, Int.reduceLE, Int.reduceToNat, Int.reduceEq, Int.reduceAdd, Int.reduceSub, Int.reduceMul, Int.reduceNeg, Nat.reduceMul, Nat.reduceSub, Nat.reduceLeDiff, Nat.reduceLT, Int.reduceGT, Int.reduceGE, Int.reduceBEq, Int.reduceBNe, reduceCtorEq, Nat.reduceAdd]
    refine hQ (i + 1, r', _) _ _ ⟨c, ?_, ?_, fun _ => ⟨r1, r2, r3, ?_⟩, fun j hj => ?_⟩ (by simp only [ownD_pos (Nat.succ_ne_zero i), i_callNe, Int.natCast_nonneg, Nat.le_refl, Int.le_refl, List.take_succ_cons, List.take_zero, decide_true, decide_false, Bool.and_false, Bool.false_and, zz, zzN, zzF, zzD, zzM, cond_true, cond_false, ↓reduceIte, Nat.reduceEqDiff, Nat.reduceBEq, Int.reduceLT, Int.reduceLE, Int.reduceToNat, Int.reduceEq, Int.reduceAdd, Int.reduceSub, Int.reduceMul, Int.reduceNeg, Nat.reduceMul, Nat.reduceSub, Nat.reduceLeDiff, Nat.reduceLT, Int.reduceGT, Int.reduceGE, Int.reduceBEq, Int.reduceBNe, reduceCtorEq, Nat.reduceAdd]) (AHeap.sub_refl _) (by simp only; omega)
    · simp only [AHeap.set_f, r1', p1n', v1, ↓reduceIte]
    · simp only [AHeap.set_f, r2', p2n', v2, ↓reduceIte]
    · simp only [AHeap.set_f, htk, ↓reduceIte]
    · have e1 : ¬ j = r' := fun e => hj (by rw [e]; exact r3)
      have e2 : ¬ j = i5 := fun e => hj (by rw [e]; by_cases q : h.f i5 = none; exact q; rw [vo i5 q] at k5; exact k5)
      simp only [AHeap.set_f, e1, e2, ↓reduceIte]
      exact vo j hj
theorem tbCl_ok : ∀ f, f ≤ 1000000000 → (Tab.zero.addW 18 (c18p f) (c18p_mono f)).ok Tryd.prog
  | 0, _ => Tab.addW_ok (Tab.zero_ok _) fun args h K c => by
    obtain ⟨n, _, hn, _⟩ := c
    omega
  | f + 1, hf => Tab.addW_ok (Tab.zero_ok _) fun args h K c => by
    obtain ⟨n, rfl, hn, hK⟩ := c
    exact (clone_step f (by omega) (tbCl_ok f (by omega)) n hn h).mono fun o h' ⟨d, e1, e2, e3⟩ => ⟨d, e1, by rw [e2, e3]; exact hK⟩
def c18n (args : List D) (h : AHeap) (K : D → AHeap → Prop) : Prop := ∃ n : Nd, args = [.agg n.enc] ∧ n.cnt < 1000000000 ∧ (K (.agg n.enc) h ∨ ∀ r h', (n.kids ≠ [] → h.f r = none ∧ h'.f r = some (.row 5 (n.kids.length + 2) (Nd.encs n.kids) false)) → (∀ j, h.f j ≠ none → h'.f j = h.f j) → K (.agg (encO n r)) h')
theorem c18n_mono (args : List D) (h : AHeap) (K K' : D → AHeap → Prop) (hk : ∀ d h, K d h → K' d h) (c : c18n args h K) : c18n args h K' := by
  obtain ⟨n, a, b, c | c⟩ := c
  · exact ⟨n, a, b, .inl (hk _ _ c)⟩
  · exact ⟨n, a, b, .inr fun r h' x y => hk _ _ (c r h' x y)⟩
theorem c18n_ok (args : List D) (h : AHeap) (K : D → AHeap → Prop) (c : c18n args h K) : ACalls Tryd.prog 18 args h fun o h' => ∃ d, o = .ret d ∧ K d h' := by
  obtain ⟨n, rfl, hn, c | c⟩ := c
  · exact (clone_step n.cnt hn (tbCl_ok n.cnt (by omega)) n (by omega) h).mono fun o h' ⟨d, e1, e2, e3⟩ => ⟨d, e1, by rw [e2, e3]; exact c⟩
  · exact (cloneL_step n.cnt hn (tbCl_ok n.cnt (by omega)) n (by omega) h).mono fun o h' ⟨d, e1, r, e2, e3, e4⟩ => ⟨d, e1, by rw [e2]; exact c r h' e3 e4⟩
end
end Go.Proofs.YthpgepillaeldaaDoor.Zz
