/- Contracts: programs. -/
import Derived.Test.YtpagdhbmbnoddaaGreatDoorZP13
import Derived.Test.YtpagdhbmbnoddaaGreatDoorZP3
set_option linter.unnecessarySimpa false
set_option linter.unusedVariables false
set_option linter.unusedSimpArgs false
set_option maxRecDepth 20000
namespace Go.Proofs.YtpagdhbmbnoddaaGreatDoor.Zz
noncomputable section
def p18p : Plan := ⟨⟨[(1, 2)], [(1, 2), (3, 1), (4, 1), (8, 1), (9, 3)], [], [((9, 3), [(.t 3)])], [((9, 1), (.t 3))], []⟩, [(9, [0, 1, 2, 3, 4, 5, 6, 7])], [], false⟩
def s18p : Stm :=
 .seq (.ops [⟨.alloc [(.int .i64 0), (.int .i64 0), (.str []), (.int .i64 0), .nilsl], some 2, none, false⟩])
 (.seq (.ops [⟨.mov (.t 0), some 6, none, true⟩,
 ⟨.build [(.int .i64 0), (.int .i64 0), (.str []), (.int .i64 0), .nilsl] [(0, 1, (.c (.int .i64 1)))], some 7, none, true⟩,
 ⟨.callR (.f 32) [(.t 6), (.t 7)], some 8, none, false⟩,
 ⟨.alloc [(.int .i64 0), (.int .i64 0), (.str []), (.int .i64 0), .nilsl], some 3, none, false⟩,
 ⟨.store 5 (.t 3) (.t 8), none, none, false⟩])
 (.seq (.ops [⟨.mov (.c (.int .i64 0)), some 4, none, true⟩,
 ⟨.mov (.c (.int .i64 0)), some 5, none, true⟩])
 (.seq (.block 0 (.loop (.seq (.seq (.ops [⟨.mov (.t 0), some 9, none, true⟩,
 ⟨.call (.f 33) [(.t 9)], some 10, none, false⟩,
 ⟨.field 0 none (.t 10), some 11, none, true⟩,
 ⟨.bin .neq (.t 11) (.c (.int .i64 0)), some 12, none, true⟩])
 (.cond (.t 12)
 (.skip)
 (.exit 0)))
 (.block 1 (.seq (.seq (.ops [⟨.mov (.t 0), some 13, none, true⟩,
 ⟨.call (.f 34) [(.t 13), (.c (.str [118, 97, 114]))], some 14, none, false⟩])
 (.cond (.t 14)
 (.ops [⟨.mov (.t 5), some 15, none, true⟩,
 ⟨.bin .add (.t 15) (.c (.int .i64 1)), some 16, none, true⟩,
 ⟨.mov (.t 16), some 5, none, true⟩])
 (.ops [⟨.mov (.t 4), some 17, none, true⟩,
 ⟨.bin .add (.t 17) (.c (.int .i64 1)), some 18, none, true⟩,
 ⟨.mov (.t 18), some 4, none, true⟩])))
 (.seq (.seq (.ops [⟨.mov (.t 5), some 19, none, true⟩,
 ⟨.bin .gtr (.t 19) (.c (.int .i64 16)), some 20, none, true⟩,
 ⟨.mov (.t 20), some 21, none, true⟩,
 ⟨.mov (.t 4), some 22, (some (21, false)), true⟩,
 ⟨.bin .gtr (.t 22) (.c (.int .i64 32)), some 23, (some (21, false)), true⟩,
 ⟨.pick (.t 21) (.c (.bool true)) (.t 23), some 24, none, true⟩])
 (.cond (.t 24)
 (.ops [⟨.mov (.t 0), some 25, none, true⟩,
 ⟨.call (.f 35) [(.t 25), (.c (.int .i64 3))], some 26, none, false⟩])
 (.skip)))
 (.opsD 27 [⟨.fieldAddr 4 (.t 3), some 27, none, true⟩,
 ⟨.loadOf none (.t 27) (.t 3), some 28, none, false⟩,
 ⟨.mov (.t 0), some 29, none, true⟩,
 ⟨.callNe (.f 36) [(.t 29)] [(.t 3)], some 30, none, false⟩,
 ⟨.buildSlice 5 [(.int .i64 0), (.int .i64 0), (.str []), (.int .i64 0), .nilsl] 1 [(0, (.t 30))] false, some 31, none, true⟩,
 ⟨.append 5 64 false (.t 28) (.t 31), some 32, none, false⟩,
 ⟨.fieldAddr 4 (.t 3), some 33, none, true⟩,
 ⟨.store 1 (.t 33) (.t 32), none, none, false⟩])))))))
 (.seq (.ops [⟨.load (some 5) (.t 3), some 34, none, false⟩,
 ⟨.store 5 (.t 2) (.t 34), none, none, false⟩])
 (.ret)))))
theorem st18p : stmOf Tryz.prog 18 p18p = some (s18p, [.cell 2 (some 5)], 35) := by kernel_rfl
def cDecl (f : Nat) (args : List D) (h : AHeap) (K E : D → AHeap → Prop) : Prop := ∃ (l : List Tok) (s : PS) (id : Nat), args = [.ptr id 1 0] ∧ WOk l ∧ cP (declG l (psF l f)) encN l s id h K E
theorem cDecl_mono (f : Nat) (args : List D) (h : AHeap) (K E K' E' : D → AHeap → Prop) (hk : ∀ d h, K d h → K' d h) (he : ∀ d h, E d h → E' d h) (c : cDecl f args h K E) : cDecl f args h K' E' := by
  obtain ⟨l, s, id, a, b, c⟩ := c
  exact ⟨l, s, id, a, b, cP_mono hk he c⟩
def tbD (f : Nat) : Tab := (tbG fun l => psF l f).addE 36 (cDecl f) (cDecl_mono f)
theorem tbD_q {f : Nat} : (tbD f).q = (tbG fun l => psF l f).q := rfl
theorem tbD_a {f : Nat} : (tbD f).a = (tbG fun l => psF l f).a := rfl
theorem tbD_c {f : Nat} (g : FuncId) (args : List D) (h : AHeap) (K E : D → AHeap → Prop) : (tbD f).c g args h K E = if g = 36 then cDecl f args h K E else (tbG fun l => psF l f).c g args h K E := rfl
theorem tbD_e : type_of% (And.intro @tbD_q (And.intro @tbD_a @tbD_c)) := And.intro @tbD_q (And.intro @tbD_a @tbD_c)
theorem tbD_ok (f : Nat) : (tbD f).ok Tryz.prog := Tab.addE_ok (tbF_ok f) fun args h K E c => declF_ok f args h K E c
set_option maxHeartbeats 1000000 in
theorem program_c (f : Nat) (l : List Tok) (hl : WOk l) (s : PS) (i1 : Nat) (ok : PSok l s) (K0 : Nd → PS → Prop) (E0 : Int → Int → Prop) (hw : wpR (progG l (psF l f) s) (fun x s' => PSok l s' → K0 x s') E0) : ACalls Tryz.prog 18 [.ptr i1 1 0] (AHeap.emp.set i1 (pObj l s)) (retP encN l i1 K0 E0) := by
  refine ACalls.of_stmD (tbD_ok f) (dc := DTab.none) (fun _ _ => DTab.none_ok) (by kernel_rfl) st18p (by simp) ?_
  rw [vc_todo]
  have hp := fun (h : AHeap) (j : Nat) (B C : AObj) => push_id (id := i1) h j B C
  unfold progG at hw
  rw [wpR_bind] at hw
  simp (maxSteps := 1000000) only [s18p, tbD_e, i_callR, hp, hp, len_enc, enc_ok, enc_unnil, part_enc, take5, set5, setE, retD_ret, retD_normal, leav_nil, leav_func, finD, tbG_e, tb64p_e, zzK, seval]
  intro i2 a2_1 b2_1
  refine .inr ⟨l, s, i1, .mk 1 0 [] 0 [], rfl, hl.lo, (by simp [a2_1, b2_1]), ok, wpR_mono' (fun n s1p e1 k ok1 => ?_) (fun a e k s' => ?_) hw⟩
  case refine_2 =>
    simp only [panD, leav_nil, finD]
    exact mid_pan (s' := s') (by simp [a2_1, b2_1]) k
  have hn := pNode_eq e1
  subst hn
  simp (maxSteps := 1000000) only [encZ, tbD_e, hp, a2_1, b2_1, len_enc, enc_ok, enc_unnil, part_enc, take5, set5, setE, retD_ret, retD_normal, leav_nil, leav_func, finD, tbG_e, tb64p_e, zzK, seval]
  intro i3 a3_2 b3_2 a3_1 b3_1
  refine run_loop (X := Nat × Nd × Nat × PS × Int × Int) (fun z => [(0, .ptr i1 1 0), (2, .ptr i2 1 0), (3, .ptr i3 1 0), (4, .int .i64 z.2.2.2.2.1), (5, .int .i64 z.2.2.2.2.2)])
    (fun z => withK (((AHeap.emp.set i1 (pObj l z.2.2.2.1)).set i2 (.cells [.int .i64 0, .int .i64 0, .str [], .int .i64 0, .nilsl])).set i3 (.cells (encW z.2.1 z.2.2.1))) z.2.1 z.2.2.1) (fun z => z.1)
    (fun z => PSok l z.2.2.2.1 ∧ wpR (progL l (psF l f) z.1 z.2.2.2.2.1 z.2.2.2.2.2 z.2.1 z.2.2.2.1) (fun x s' => PSok l s' → K0 x s') E0 ∧ (z.2.1.kidsOf ≠ [] → ¬ z.2.2.1 = i1 ∧ ¬ z.2.2.1 = i2 ∧ ¬ z.2.2.1 = i3) ∧ 0 ≤ z.2.2.2.2.1 ∧ z.2.2.2.2.1 ≤ 32 ∧ 0 ≤ z.2.2.2.2.2 ∧ z.2.2.2.2.2 ≤ 16 ∧ (z.2.1.kidsOf.length : Int) ≤ z.2.2.2.2.1 + z.2.2.2.2.2)
    (l.length + 1, .mk 1 0 [] 0 [], 0, s1p, 0, 0) ⟨ok1, k, fun h => absurd rfl h, (show (0 : Int) ≤ 0 by omega), (show (0 : Int) ≤ 32 by omega), (show (0 : Int) ≤ 0 by omega), (show (0 : Int) ≤ 16 by omega), (show ((0 : Nat) : Int) ≤ 0 + 0 by omega)⟩ (by simp only [tb64p_e, zzK, seval]) (AHeap.sub_refl _) ?_
  clear hw
  rintro ⟨j, n, r, s0p, fs, gs⟩ Q ⟨ok0, hw, hr, f0, f1, g0, g1, h6⟩ hQ
  simp only at ok0 hw hr h6 f0 f1 g0 g1 hQ ⊢
  cases j with
  | zero => exact hw.elim
  | succ j =>
  unfold progL at hw
  obtain ⟨nk, nt, ns, nm, nl⟩ := n
  simp only [Nd.kidsOf] at hw hr h6
  by_cases hnl : nl = []
  · subst hnl
    have hH : ∀ h : AHeap, withK h (.mk nk nt ns nm []) r = h := fun h => if_pos rfl
    rw [hH, encW, List.length_nil, ownD_zero]
    simp (maxSteps := 1000000) only [tbD_e, hp, a2_1, b2_1, a3_2, b3_2, a3_1, b3_1, len_enc, enc_ok, enc_unnil, part_enc, take5, set5, setE, retD_ret, retD_normal, leav_nil, leav_func, finD, tbG_e, tb64p_e, zzK, seval]
    refine ⟨l, s0p, i1, rfl, (by simp [a2_1, b2_1, a3_2, b3_2, a3_1, b3_1]), ok0.at_, ?_⟩
    cases c1p : ((pNow l s0p).1 != 0) with
    | false =>
      have k := wpR_no (q := (.ok (Nd.mk nk nt ns nm []) s0p : PR Nd)) c1p hw
      rw [wpR_ok] at k
      generalize pNow l s0p = t at *
      obtain ⟨kk, y, a⟩ := t
      simp only at c1p
      simp (maxSteps := 1000000) only [tokD, c1p, tbD_e, hp, a2_1, b2_1, a3_2, b3_2, a3_1, b3_1, len_enc, enc_ok, enc_unnil, part_enc, take5, set5, setE, retD_ret, retD_normal, leav_nil, leav_func, finD, tbG_e, tb64p_e, zzK, seval]
      exact mid_ret' (x := .mk nk nt ns nm []) (s' := s0p) (by rw [encN, enc_mk, encs_nil]) (by simp [a2_1, b2_1, a3_2, b3_2, a3_1, b3_1]) (k ok0)
    | true =>
      have k := wpR_yes c1p hw
      have hnow : pIs l wVar s0p = pIs l wVar s0p := rfl
      generalize hv : pIs l wVar s0p = v at k
      generalize pNow l s0p = t at c1p
      obtain ⟨kk, y, a⟩ := t
      simp only at c1p
      simp (maxSteps := 1000000) only [tokD, c1p, tbD_e, hp, a2_1, b2_1, a3_2, b3_2, a3_1, b3_1, len_enc, enc_ok, enc_unnil, part_enc, take5, set5, setE, retD_ret, retD_normal, leav_nil, leav_func, finD, tbG_e, tb64p_e, zzK, seval]
      refine ⟨l, s0p, i1, wVar, rfl, (by simp [a2_1, b2_1, a3_2, b3_2, a3_1, b3_1]), ok0.at_, ?_⟩
      rw [hv]
      clear hnow
      cases v with
      | true =>
        have w2 : IntKind.i64.wrap (gs + 1) = gs + 1 := wrap_i64 (by omega) (by omega)
        by_cases c3p : gs + 1 > 16
        · have q1p : (gs + 1 > 16) = True := eq_true c3p
          have q2p : (fs > 32) = False := eq_false (by omega)
          replace k := wpR_yes (p := (pFail l 3 s0p : PR Nd)) (by simp only [cond_true, cond_false, Bool.or_eq_true, decide_eq_true_eq]; omega) k
          simp (maxSteps := 1000000) only [w2, q1p, q2p, tbD_e, hp, a2_1, b2_1, a3_2, b3_2, a3_1, b3_1, len_enc, enc_ok, enc_unnil, part_enc, take5, set5, setE, retD_ret, retD_normal, leav_nil, leav_func, finD, tbG_e, tb64p_e, zzK, seval]
          refine ⟨l, s0p, i1, 3, rfl, (by simp [a2_1, b2_1, a3_2, b3_2, a3_1, b3_1]), ok0.at_, ?_⟩
          simp only [panD]
          show leav DTab.none [] _ _ _
          simp only [leav_nil, finD]
          exact mid_pan (s' := s0p) (by simp [a2_1, b2_1, a3_2, b3_2, a3_1, b3_1]) k
        · have q1p : (gs + 1 > 16) = False := eq_false c3p
          have q2p : (fs > 32) = False := eq_false (by omega)
          replace k := wpR_no (q := ((declG l (psF l f) s0p).bind fun d s => progL l (psF l f) j (fs) (gs + 1) ((Nd.mk nk nt ns nm []).addKid d) s)) (by simp only [cond_true, cond_false, Bool.or_eq_false_iff, decide_eq_false_iff_not]; omega) k
          rw [wpR_bind] at k
          simp (maxSteps := 1000000) only [w2, q1p, q2p, tbD_e, hp, a2_1, b2_1, a3_2, b3_2, a3_1, b3_1, len_enc, enc_ok, enc_unnil, part_enc, take5, set5, setE, retD_ret, retD_normal, leav_nil, leav_func, finD, tbG_e, tb64p_e, zzK, seval]
          refine ⟨l, s0p, i1, rfl, hl, (by simp [a2_1, b2_1, a3_2, b3_2, a3_1, b3_1]), ok0, wpR_mono' (fun y s1p e1 k ok1 => ?_) (fun a e k s' => ?_) k⟩
          case refine_2 =>
            intro σ hσ _
            simp only [panD]
            rw [hσ]
            show leav DTab.none [] _ _ _
            simp only [leav_nil, finD]
            exact mid_pan (s' := s') (by simp [a2_1, b2_1, a3_2, b3_2, a3_1, b3_1]) k
          simp (maxSteps := 1000000) only [encN, tbD_e, hp, a2_1, b2_1, a3_2, b3_2, a3_1, b3_1, len_enc, enc_ok, enc_unnil, part_enc, take5, set5, setE, retD_ret, retD_normal, leav_nil, leav_func, finD, tbG_e, tb64p_e, zzK, seval]
          intro i4 a4_3 b4_3 a4_2 b4_2 a4_1 b4_1
          simp (maxSteps := 1000000) only [tbD_e, hp, a2_1, b2_1, a3_2, b3_2, a3_1, b3_1, a4_3, b4_3, a4_2, b4_2, a4_1, b4_1, len_enc, enc_ok, enc_unnil, part_enc, take5, set5, setE, retD_ret, retD_normal, leav_nil, leav_func, finD, tbG_e, tb64p_e, zzK, seval]
          refine hQ (j, .mk nk nt ns nm [y], i4, s1p, fs, gs + 1) _ _ ⟨ok1, k, fun _ => ⟨a4_1, a4_2, a4_3⟩, by simp only; omega, by simp only; omega, by simp only; omega, by simp only; omega, by simp only [Nd.kidsOf, List.length_cons, List.length_nil]; omega⟩ (by simp only [tb64p_e, zzK, seval]) ?_ (by simp only; omega)
          simp only [withK, Nd.kidsOf, encW, List.length_cons, List.length_nil, encs_cons, encs_nil, reduceCtorEq, if_false, ownD_pos (Nat.succ_ne_zero 0)]
          exact AHeap.sub_X (by repeat' first | with_reducible exact AHeap.subX_refl | with_reducible exact AHeap.subX_emp | refine AHeap.subX_l (by simp [a2_1, b2_1, a3_2, b3_2, a3_1, b3_1, a4_3, b4_3, a4_2, b4_2, a4_1, b4_1]) ?_ | refine AHeap.subX_r (by simp [a2_1, b2_1, a3_2, b3_2, a3_1, b3_1, a4_3, b4_3, a4_2, b4_2, a4_1, b4_1]) ?_)
      | false =>
        have w2 : IntKind.i64.wrap (fs + 1) = fs + 1 := wrap_i64 (by omega) (by omega)
        by_cases c3p : fs + 1 > 32
        · have q2p : (fs + 1 > 32) = True := eq_true c3p
          have q1p : (gs > 16) = False := eq_false (by omega)
          replace k := wpR_yes (p := (pFail l 3 s0p : PR Nd)) (by simp only [cond_true, cond_false, Bool.or_eq_true, decide_eq_true_eq]; omega) k
          simp (maxSteps := 1000000) only [w2, q1p, q2p, tbD_e, hp, a2_1, b2_1, a3_2, b3_2, a3_1, b3_1, len_enc, enc_ok, enc_unnil, part_enc, take5, set5, setE, retD_ret, retD_normal, leav_nil, leav_func, finD, tbG_e, tb64p_e, zzK, seval]
          refine ⟨l, s0p, i1, 3, rfl, (by simp [a2_1, b2_1, a3_2, b3_2, a3_1, b3_1]), ok0.at_, ?_⟩
          simp only [panD]
          show leav DTab.none [] _ _ _
          simp only [leav_nil, finD]
          exact mid_pan (s' := s0p) (by simp [a2_1, b2_1, a3_2, b3_2, a3_1, b3_1]) k
        · have q2p : (fs + 1 > 32) = False := eq_false c3p
          have q1p : (gs > 16) = False := eq_false (by omega)
          replace k := wpR_no (q := ((declG l (psF l f) s0p).bind fun d s => progL l (psF l f) j (fs + 1) (gs) ((Nd.mk nk nt ns nm []).addKid d) s)) (by simp only [cond_true, cond_false, Bool.or_eq_false_iff, decide_eq_false_iff_not]; omega) k
          rw [wpR_bind] at k
          simp (maxSteps := 1000000) only [w2, q1p, q2p, tbD_e, hp, a2_1, b2_1, a3_2, b3_2, a3_1, b3_1, len_enc, enc_ok, enc_unnil, part_enc, take5, set5, setE, retD_ret, retD_normal, leav_nil, leav_func, finD, tbG_e, tb64p_e, zzK, seval]
          refine ⟨l, s0p, i1, rfl, hl, (by simp [a2_1, b2_1, a3_2, b3_2, a3_1, b3_1]), ok0, wpR_mono' (fun y s1p e1 k ok1 => ?_) (fun a e k s' => ?_) k⟩
          case refine_2 =>
            intro σ hσ _
            simp only [panD]
            rw [hσ]
            show leav DTab.none [] _ _ _
            simp only [leav_nil, finD]
            exact mid_pan (s' := s') (by simp [a2_1, b2_1, a3_2, b3_2, a3_1, b3_1]) k
          simp (maxSteps := 1000000) only [encN, tbD_e, hp, a2_1, b2_1, a3_2, b3_2, a3_1, b3_1, len_enc, enc_ok, enc_unnil, part_enc, take5, set5, setE, retD_ret, retD_normal, leav_nil, leav_func, finD, tbG_e, tb64p_e, zzK, seval]
          intro i4 a4_3 b4_3 a4_2 b4_2 a4_1 b4_1
          simp (maxSteps := 1000000) only [tbD_e, hp, a2_1, b2_1, a3_2, b3_2, a3_1, b3_1, a4_3, b4_3, a4_2, b4_2, a4_1, b4_1, len_enc, enc_ok, enc_unnil, part_enc, take5, set5, setE, retD_ret, retD_normal, leav_nil, leav_func, finD, tbG_e, tb64p_e, zzK, seval]
          refine hQ (j, .mk nk nt ns nm [y], i4, s1p, fs + 1, gs) _ _ ⟨ok1, k, fun _ => ⟨a4_1, a4_2, a4_3⟩, by simp only; omega, by simp only; omega, by simp only; omega, by simp only; omega, by simp only [Nd.kidsOf, List.length_cons, List.length_nil]; omega⟩ (by simp only [tb64p_e, zzK, seval]) ?_ (by simp only; omega)
          simp only [withK, Nd.kidsOf, encW, List.length_cons, List.length_nil, encs_cons, encs_nil, reduceCtorEq, if_false, ownD_pos (Nat.succ_ne_zero 0)]
          exact AHeap.sub_X (by repeat' first | with_reducible exact AHeap.subX_refl | with_reducible exact AHeap.subX_emp | refine AHeap.subX_l (by simp [a2_1, b2_1, a3_2, b3_2, a3_1, b3_1, a4_3, b4_3, a4_2, b4_2, a4_1, b4_1]) ?_ | refine AHeap.subX_r (by simp [a2_1, b2_1, a3_2, b3_2, a3_1, b3_1, a4_3, b4_3, a4_2, b4_2, a4_1, b4_1]) ?_)
  · obtain ⟨i4, rfl⟩ : ∃ q, q = r := ⟨r, rfl⟩
    obtain ⟨a4_1, a4_2, a4_3⟩ := hr hnl
    have b4_1 : ¬ i1 = i4 := fun e => a4_1 e.symm
    have b4_2 : ¬ i2 = i4 := fun e => a4_2 e.symm
    have b4_3 : ¬ i3 = i4 := fun e => a4_3 e.symm
    have hH : ∀ h : AHeap, withK h (.mk nk nt ns nm nl) i4 = h.set i4 (.row 5 (nl.length + 2) (Nd.encs nl) false) := fun h => if_neg hnl
    have hl0 : nl.length ≠ 0 := fun e => hnl (List.length_eq_zero_iff.1 e)
    have tk : (Nd.encs nl).take nl.length = Nd.encs nl := List.take_of_length_le (by rw [len_encs]; omega)
    rw [hH, encW, ownD_pos hl0]
    simp (maxSteps := 1000000) only [tbD_e, hp, a2_1, b2_1, a3_2, b3_2, a3_1, b3_1, a4_3, b4_3, a4_2, b4_2, a4_1, b4_1, len_enc, enc_ok, enc_unnil, part_enc, take5, set5, setE, retD_ret, retD_normal, leav_nil, leav_func, finD, tbG_e, tb64p_e, zzK, seval]
    refine ⟨l, s0p, i1, rfl, (by simp [a2_1, b2_1, a3_2, b3_2, a3_1, b3_1, a4_3, b4_3, a4_2, b4_2, a4_1, b4_1]), ok0.at_, ?_⟩
    cases c1p : ((pNow l s0p).1 != 0) with
    | false =>
      have k := wpR_no (q := (.ok (Nd.mk nk nt ns nm nl) s0p : PR Nd)) c1p hw
      rw [wpR_ok] at k
      generalize pNow l s0p = t at *
      obtain ⟨kk, y, a⟩ := t
      simp only at c1p
      simp (maxSteps := 1000000) only [tokD, c1p, len_encs, tk, tbD_e, hp, a2_1, b2_1, a3_2, b3_2, a3_1, b3_1, a4_3, b4_3, a4_2, b4_2, a4_1, b4_1, len_enc, enc_ok, enc_unnil, part_enc, take5, set5, setE, retD_ret, retD_normal, leav_nil, leav_func, finD, tbG_e, tb64p_e, zzK, seval]
      exact mid_ret' (x := .mk nk nt ns nm nl) (s' := s0p) (by rw [encN, enc_mk]) (by simp [a2_1, b2_1, a3_2, b3_2, a3_1, b3_1, a4_3, b4_3, a4_2, b4_2, a4_1, b4_1]) (k ok0)
    | true =>
      have k := wpR_yes c1p hw
      generalize hv : pIs l wVar s0p = v at k
      generalize pNow l s0p = t at c1p
      obtain ⟨kk, y, a⟩ := t
      simp only at c1p
      simp (maxSteps := 1000000) only [tokD, c1p, tbD_e, hp, a2_1, b2_1, a3_2, b3_2, a3_1, b3_1, a4_3, b4_3, a4_2, b4_2, a4_1, b4_1, len_enc, enc_ok, enc_unnil, part_enc, take5, set5, setE, retD_ret, retD_normal, leav_nil, leav_func, finD, tbG_e, tb64p_e, zzK, seval]
      refine ⟨l, s0p, i1, wVar, rfl, (by simp [a2_1, b2_1, a3_2, b3_2, a3_1, b3_1, a4_3, b4_3, a4_2, b4_2, a4_1, b4_1]), ok0.at_, ?_⟩
      rw [hv]
      cases v with
      | true =>
        have w2 : IntKind.i64.wrap (gs + 1) = gs + 1 := wrap_i64 (by omega) (by omega)
        by_cases c3p : gs + 1 > 16
        · have q1p : (gs + 1 > 16) = True := eq_true c3p
          have q2p : (fs > 32) = False := eq_false (by omega)
          replace k := wpR_yes (p := (pFail l 3 s0p : PR Nd)) (by simp only [cond_true, cond_false, Bool.or_eq_true, decide_eq_true_eq]; omega) k
          simp (maxSteps := 1000000) only [w2, q1p, q2p, len_encs, tbD_e, hp, a2_1, b2_1, a3_2, b3_2, a3_1, b3_1, a4_3, b4_3, a4_2, b4_2, a4_1, b4_1, len_enc, enc_ok, enc_unnil, part_enc, take5, set5, setE, retD_ret, retD_normal, leav_nil, leav_func, finD, tbG_e, tb64p_e, zzK, seval]
          refine ⟨l, s0p, i1, 3, rfl, (by simp [a2_1, b2_1, a3_2, b3_2, a3_1, b3_1, a4_3, b4_3, a4_2, b4_2, a4_1, b4_1]), ok0.at_, ?_⟩
          simp only [panD]
          show leav DTab.none [] _ _ _
          simp only [leav_nil, finD]
          exact mid_pan (s' := s0p) (by simp [a2_1, b2_1, a3_2, b3_2, a3_1, b3_1, a4_3, b4_3, a4_2, b4_2, a4_1, b4_1]) k
        · have q1p : (gs + 1 > 16) = False := eq_false c3p
          have q2p : (fs > 32) = False := eq_false (by omega)
          replace k := wpR_no (q := ((declG l (psF l f) s0p).bind fun d s => progL l (psF l f) j (fs) (gs + 1) ((Nd.mk nk nt ns nm nl).addKid d) s)) (by simp only [cond_true, cond_false, Bool.or_eq_false_iff, decide_eq_false_iff_not]; omega) k
          rw [wpR_bind] at k
          simp (maxSteps := 1000000) only [w2, q1p, q2p, len_encs, tbD_e, hp, a2_1, b2_1, a3_2, b3_2, a3_1, b3_1, a4_3, b4_3, a4_2, b4_2, a4_1, b4_1, len_enc, enc_ok, enc_unnil, part_enc, take5, set5, setE, retD_ret, retD_normal, leav_nil, leav_func, finD, tbG_e, tb64p_e, zzK, seval]
          refine ⟨l, s0p, i1, rfl, hl, (by simp [a2_1, b2_1, a3_2, b3_2, a3_1, b3_1, a4_3, b4_3, a4_2, b4_2, a4_1, b4_1]), ok0, wpR_mono' (fun y s1p e1 k ok1 => ?_) (fun a e k s' => ?_) k⟩
          case refine_2 =>
            intro σ hσ _
            simp only [panD]
            rw [hσ]
            show leav DTab.none [] _ _ _
            simp only [leav_nil, finD]
            exact mid_pan (s' := s') (by simp [a2_1, b2_1, a3_2, b3_2, a3_1, b3_1, a4_3, b4_3, a4_2, b4_2, a4_1, b4_1]) k
          simp (maxSteps := 1000000) only [encN, len_encs, tbD_e, hp, a2_1, b2_1, a3_2, b3_2, a3_1, b3_1, a4_3, b4_3, a4_2, b4_2, a4_1, b4_1, len_enc, enc_ok, enc_unnil, part_enc, take5, set5, setE, retD_ret, retD_normal, leav_nil, leav_func, finD, tbG_e, tb64p_e, zzK, seval]
          refine ⟨by omega, hQ (j, .mk nk nt ns nm (nl ++ [y]), i4, s1p, fs, gs + 1) _ _ ⟨ok1, k, fun _ => ⟨a4_1, a4_2, a4_3⟩, by simp only; omega, by simp only; omega, by simp only; omega, by simp only; omega, by simp only [Nd.kidsOf, List.length_append, List.length_cons, List.length_nil]; omega⟩ (by simp only [tb64p_e, zzK, seval]) ?_ (by simp only; omega)⟩
          have hne : nl ++ [y] ≠ [] := by simp
          simp only [withK, Nd.kidsOf, encW, List.length_append, List.length_cons, List.length_nil, hne, if_false, ← encs_snoc, ownD_pos (show nl.length + (0 + 1) ≠ 0 by omega)]
          rw [show nl.length + 2 + 1 = nl.length + (0 + 1) + 2 by omega]
          exact AHeap.sub_X (by repeat' first | with_reducible exact AHeap.subX_refl | with_reducible exact AHeap.subX_emp | refine AHeap.subX_l (by simp [a2_1, b2_1, a3_2, b3_2, a3_1, b3_1, a4_3, b4_3, a4_2, b4_2, a4_1, b4_1]) ?_ | refine AHeap.subX_r (by simp [a2_1, b2_1, a3_2, b3_2, a3_1, b3_1, a4_3, b4_3, a4_2, b4_2, a4_1, b4_1]) ?_)
      | false =>
        have w2 : IntKind.i64.wrap (fs + 1) = fs + 1 := wrap_i64 (by omega) (by omega)
        by_cases c3p : fs + 1 > 32
        · have q2p : (fs + 1 > 32) = True := eq_true c3p
          have q1p : (gs > 16) = False := eq_false (by omega)
          replace k := wpR_yes (p := (pFail l 3 s0p : PR Nd)) (by simp only [cond_true, cond_false, Bool.or_eq_true, decide_eq_true_eq]; omega) k
          simp (maxSteps := 1000000) only [w2, q1p, q2p, len_encs, tbD_e, hp, a2_1, b2_1, a3_2, b3_2, a3_1, b3_1, a4_3, b4_3, a4_2, b4_2, a4_1, b4_1, len_enc, enc_ok, enc_unnil, part_enc, take5, set5, setE, retD_ret, retD_normal, leav_nil, leav_func, finD, tbG_e, tb64p_e, zzK, seval]
          refine ⟨l, s0p, i1, 3, rfl, (by simp [a2_1, b2_1, a3_2, b3_2, a3_1, b3_1, a4_3, b4_3, a4_2, b4_2, a4_1, b4_1]), ok0.at_, ?_⟩
          simp only [panD]
          show leav DTab.none [] _ _ _
          simp only [leav_nil, finD]
          exact mid_pan (s' := s0p) (by simp [a2_1, b2_1, a3_2, b3_2, a3_1, b3_1, a4_3, b4_3, a4_2, b4_2, a4_1, b4_1]) k
        · have q2p : (fs + 1 > 32) = False := eq_false c3p
          have q1p : (gs > 16) = False := eq_false (by omega)
          replace k := wpR_no (q := ((declG l (psF l f) s0p).bind fun d s => progL l (psF l f) j (fs + 1) (gs) ((Nd.mk nk nt ns nm nl).addKid d) s)) (by simp only [cond_true, cond_false, Bool.or_eq_false_iff, decide_eq_false_iff_not]; omega) k
          rw [wpR_bind] at k
          simp (maxSteps := 1000000) only [w2, q1p, q2p, len_encs, tbD_e, hp, a2_1, b2_1, a3_2, b3_2, a3_1, b3_1, a4_3, b4_3, a4_2, b4_2, a4_1, b4_1, len_enc, enc_ok, enc_unnil, part_enc, take5, set5, setE, retD_ret, retD_normal, leav_nil, leav_func, finD, tbG_e, tb64p_e, zzK, seval]
          refine ⟨l, s0p, i1, rfl, hl, (by simp [a2_1, b2_1, a3_2, b3_2, a3_1, b3_1, a4_3, b4_3, a4_2, b4_2, a4_1, b4_1]), ok0, wpR_mono' (fun y s1p e1 k ok1 => ?_) (fun a e k s' => ?_) k⟩
          case refine_2 =>
            intro σ hσ _
            simp only [panD]
            rw [hσ]
            show leav DTab.none [] _ _ _
            simp only [leav_nil, finD]
            exact mid_pan (s' := s') (by simp [a2_1, b2_1, a3_2, b3_2, a3_1, b3_1, a4_3, b4_3, a4_2, b4_2, a4_1, b4_1]) k
          simp (maxSteps := 1000000) only [encN, len_encs, tbD_e, hp, a2_1, b2_1, a3_2, b3_2, a3_1, b3_1, a4_3, b4_3, a4_2, b4_2, a4_1, b4_1, len_enc, enc_ok, enc_unnil, part_enc, take5, set5, setE, retD_ret, retD_normal, leav_nil, leav_func, finD, tbG_e, tb64p_e, zzK, seval]
          refine ⟨by omega, hQ (j, .mk nk nt ns nm (nl ++ [y]), i4, s1p, fs + 1, gs) _ _ ⟨ok1, k, fun _ => ⟨a4_1, a4_2, a4_3⟩, by simp only; omega, by simp only; omega, by simp only; omega, by simp only; omega, by simp only [Nd.kidsOf, List.length_append, List.length_cons, List.length_nil]; omega⟩ (by simp only [tb64p_e, zzK, seval]) ?_ (by simp only; omega)⟩
          have hne : nl ++ [y] ≠ [] := by simp
          simp only [withK, Nd.kidsOf, encW, List.length_append, List.length_cons, List.length_nil, hne, if_false, ← encs_snoc, ownD_pos (show nl.length + (0 + 1) ≠ 0 by omega)]
          rw [show nl.length + 2 + 1 = nl.length + (0 + 1) + 2 by omega]
          exact AHeap.sub_X (by repeat' first | with_reducible exact AHeap.subX_refl | with_reducible exact AHeap.subX_emp | refine AHeap.subX_l (by simp [a2_1, b2_1, a3_2, b3_2, a3_1, b3_1, a4_3, b4_3, a4_2, b4_2, a4_1, b4_1]) ?_ | refine AHeap.subX_r (by simp [a2_1, b2_1, a3_2, b3_2, a3_1, b3_1, a4_3, b4_3, a4_2, b4_2, a4_1, b4_1]) ?_)
end
end Go.Proofs.YtpagdhbmbnoddaaGreatDoor.Zz
namespace Go.Proofs.YtpagdhbmbnoddaaGreatDoor.Zz
noncomputable section
def p17p : Plan := ⟨⟨[], [], [], [((5, 5), [(.t 4), (.t 4)]), ((5, 6), [(.t 4)])], [((5, 2), (.t 4)), ((5, 4), (.t 4))], []⟩, [(5, [0, 1, 2, 3, 4, 5, 6, 7])], [], false⟩
def s17p : Stm :=
 .seq (.ops [⟨.mov (.t 3), some 7, none, true⟩,
 ⟨.eql .iface true (.t 7) (.c .nilif), some 8, none, true⟩])
 (.cond (.t 8)
 (.seq (.ops [⟨.mov (.t 3), some 10, none, true⟩,
 ⟨.typeAssert 48 true .undef (.t 10), some 11, none, false⟩,
 ⟨.mov (.t 11), some 9, none, true⟩,
 ⟨.extract (.t 9) 0, some 12, none, true⟩,
 ⟨.extract (.t 9) 1, some 13, none, true⟩,
 ⟨.alloc [(.int .i64 0), (.int .i64 0)], some 4, none, false⟩,
 ⟨.store 2 (.t 4) (.t 12), none, none, false⟩,
 ⟨.mov (.t 13), some 5, none, true⟩])
 (.seq (.seq (.ops [⟨.mov (.t 5), some 14, none, true⟩,
 ⟨.un .not (.t 14), some 15, none, true⟩])
 (.cond (.t 15)
 (.ops [⟨.mov (.t 3), some 16, none, true⟩,
 ⟨.panic (.t 16), none, none, false⟩])
 (.skip)))
 (.opsD 17 [⟨.build [(.int .i64 0), (.int .i64 0), (.str []), (.int .i64 0), .nilsl] [], some 17, none, true⟩,
 ⟨.fieldAddr 0 (.t 4), some 18, none, true⟩,
 ⟨.loadOf none (.t 18) (.t 4), some 19, none, false⟩,
 ⟨.fieldAddr 1 (.t 4), some 20, none, true⟩,
 ⟨.loadOf none (.t 20) (.t 4), some 21, none, false⟩,
 ⟨.storeNe 5 (.t 0) (.t 17) [(.t 4), (.t 4)], none, none, false⟩,
 ⟨.storeNe 1 (.t 1) (.t 19) [(.t 4)], none, none, false⟩,
 ⟨.store 1 (.t 2) (.t 21), none, none, false⟩])))
 (.skip))
theorem rc17 : recOf Tryz.prog 17 p17p = some (s17p, [], 22, 6, 3) := by kernel_rfl
def dRec : DTab := fun k args u h F => k = 17 ∧ ∃ (a b c : Nat) (v : List D) (p q : D), args = [.ptr a 1 0, .ptr b 1 0, .ptr c 1 0] ∧ v.length = 5 ∧ h.f a = some (.cells v) ∧ h.f b = some (.cells [p]) ∧ h.f c = some (.cells [q]) ∧ ¬ b = a ∧ ¬ a = b ∧ ¬ c = a ∧ ¬ a = c ∧ ¬ c = b ∧ ¬ b = c ∧
  ((u = none ∧ F none h) ∨ ∃ x e, u = some (stopD x e) ∧ F none (((h.set a (.cells [.int .i64 0, .int .i64 0, .str [], .int .i64 0, .nilsl])).set b (.cells [.int .i64 x])).set c (.cells [.int .i64 e])))
theorem dRec_ok (κ : Kap) (w : World) : dRec.okY Tryz.prog κ w := by
  rintro k args u h F ⟨rfl, a, b, c, v, p, q, rfl, hv, ha, hb, hc, n1, n2, n3, n4, n5, n6, hF⟩ κ' w' le
  refine DCallsAt.of_recOf ((Tab.zero_ok Tryz.prog).toY κ' w') rc17 (by simp) ?_
  rcases hF with ⟨rfl, hF⟩ | ⟨x, e, rfl, hF⟩
  · simp (maxSteps := 1000000) only [s17p, recD, retO_normal, zzK, seval]
    exact ⟨h, AHeap.sub_refl h, hF⟩
  · simp (maxSteps := 1000000) only [s17p, recD, stopD, i_assert, retO_normal, zzK, seval]
    intro i hi
    have ma : ¬ a = i := fun e => by subst e; rw [ha] at hi; cases hi
    have mb : ¬ b = i := fun e => by subst e; rw [hb] at hi; cases hi
    have mc : ¬ c = i := fun e => by subst e; rw [hc] at hi; cases hi
    match v, hv with
    | [v0, v1, v2, v3, v4], _ =>
    have ma' : (!a == i) = true := by simp [ma]
    have mb' : (!b == i) = true := by simp [mb]
    simp (maxSteps := 1000000) only [ma, mb, mc, ma', mb', ha, hb, hc, n1, n2, n3, n4, n5, n6, retO_normal, zzK, seval]
    refine ⟨_, fun j o hj => ?_, hF⟩
    simp only [AHeap.set_f] at hj ⊢
    by_cases e : j = i
    · subst e
      have m1 : ¬ j = a := fun e => ma e.symm
      have m2 : ¬ j = b := fun e => mb e.symm
      have m3 : ¬ j = c := fun e => mc e.symm
      simp [m1, m2, m3, hi] at hj
    · simpa [e] using hj
end
end Go.Proofs.YtpagdhbmbnoddaaGreatDoor.Zz
namespace Go.Proofs.YtpagdhbmbnoddaaGreatDoor.Zz
theorem valF_acc : ∀ (l : List UInt8) (n : Nat), l.foldl (fun n c => n * 10 + (c.toNat - 48)) n = n * 10 ^ l.length + valF l
  | [], n => by simp [valF]
  | c :: l, n => by
    have h1 := valF_acc l (n * 10 + (c.toNat - 48))
    have h2 := valF_acc l (0 * 10 + (c.toNat - 48))
    unfold valF at *
    simp only [List.foldl_cons, List.length_cons]
    rw [h1, h2, Nat.pow_succ]
    simp only [Nat.zero_mul, Nat.zero_add, Nat.add_mul, Nat.mul_assoc, Nat.mul_comm 10, Nat.add_assoc]
theorem valF_cons (c : UInt8) (l : List UInt8) : valF (c :: l) = (c.toNat - 48) * 10 ^ l.length + valF l := by
  have := valF_acc l (0 * 10 + (c.toNat - 48))
  simp only [Nat.zero_mul, Nat.zero_add] at this
  rw [← this]
  simp [valF]
theorem less_val : ∀ (s t : List UInt8), s.length = t.length → s.all isDig = true → t.all isDig = true → Op.bytesLess s t = true → valF s < valF t
  | [], [], _, _, _, h => by simp [Op.bytesLess] at h
  | [], _ :: _, e, _, _, _ => by simp at e
  | _ :: _, [], e, _, _, _ => by simp at e
  | c :: s, d :: t, e, hs, ht, h => by
    simp only [List.length_cons, Nat.add_right_cancel_iff] at e
    simp only [List.all_cons, Bool.and_eq_true] at hs ht
    have vs := valF_lt s hs.2
    have vt := valF_lt t ht.2
    have hc := hs.1
    have hd := ht.1
    simp only [isDig, Bool.and_eq_true, decide_eq_true_eq] at hc hd
    rw [valF_cons, valF_cons, e]
    rw [e] at vs
    simp only [Op.bytesLess] at h
    by_cases c1p : c < d
    · have c1p' : c.toNat < d.toNat := c1p
      have := Nat.mul_le_mul_right (10 ^ t.length) (show c.toNat - 48 + 1 ≤ d.toNat - 48 by omega)
      rw [Nat.add_mul] at this
      omega
    · by_cases c2p : c = d
      · subst c2p
        have hl : Op.bytesLess s t = true := by simpa using h
        have := less_val s t e hs.2 ht.2 hl
        omega
      · simp [c1p, c2p] at h
theorem wholeL_ok {s : List UInt8} (ha : s.all isDig = true) (h : wholeL s = true) : s.length ≤ 19 ∧ valF s < 9223372036854775808 := by
  unfold wholeL at h
  simp only [Bool.and_eq_true, Bool.not_eq_true', Bool.or_eq_false_iff, decide_eq_false_iff_not, Bool.or_eq_true, decide_eq_true_eq, beq_iff_eq] at h
  obtain ⟨⟨_, h1⟩, h2⟩ := h
  refine ⟨by omega, ?_⟩
  have em : valF mxL = 9223372036854775807 := by decide +kernel
  rcases h2 with h2 | h2 | h2
  · have h3 := valF_lt s ha
    have h4 := Nat.pow_le_pow_right (show 0 < 10 by decide) (show s.length ≤ 18 by omega)
    have h5 : (10 : Nat) ^ 18 = 1000000000000000000 := by decide
    omega
  · by_cases c : s.length = 19
    · have := less_val s mxL (by rw [c]; rfl) ha (by decide) h2
      omega
    · have h3 := valF_lt s ha
      have h4 := Nat.pow_le_pow_right (show 0 < 10 by decide) (show s.length ≤ 18 by omega)
      have h5 : (10 : Nat) ^ 18 = 1000000000000000000 := by decide
      omega
  · rw [h2, em]; decide
theorem isDig_eq (c : UInt8) : isDigit (c.toNat : Int) = isDig c := by
  simp only [isDigit, isDig]
  congr 1 <;> · apply decide_eq_decide.2; omega
theorem take_spn (l : List UInt8) : (l.take (spn isDigit l)).all isDig = true := by
  induction l with
  | nil => rfl
  | cons c l ih =>
    rw [spn_cons]
    split
    · rename_i h; rw [isDig_eq] at h; simp [h]; simpa using ih
    · rfl
structure TGood (t : Tok) : Prop where
  ne : t.1 ≠ 0
  whole : t.1 = 2 → t.2.1.all isDig = true ∧ t.2.1 ≠ [] ∧ t.2.1.length ≤ 4096 ∧ valF t.2.1 < 9223372036854775808
  dot : t.1 = 3 → ∃ A B, Dotted t.2.1 A B
theorem numL_good {l : List UInt8} {p : Int} (hl : 0 < l.length) (hd : isDigit ((l.getD 0 0).toNat : Int) = true) (h : (numL l).2.2 = true) : TGood ((numL l).1, (numL l).2.1, p) := by
  have h1 := spn_pos hl hd
  have h2 := spn_le isDigit l
  have hA := take_spn l
  unfold numL at h ⊢
  generalize hn : spn isDigit l = n at *
  by_cases hc : (decide (n < l.length) && ((l.getD n 0).toNat : Int) == 46) = true
  · rw [if_pos hc] at h ⊢
    have h3 := spn_le isDigit (l.drop (n + 1))
    have hB := take_spn (l.drop (n + 1))
    rw [List.length_drop] at h3
    generalize spn isDigit (l.drop (n + 1)) = m at *
    simp only [Bool.not_eq_true', Bool.or_eq_false_iff, decide_eq_false_iff_not] at h
    simp only [Bool.and_eq_true, decide_eq_true_eq, beq_iff_eq] at hc
    refine ⟨by simp, by simp, fun _ => ⟨l.take n, (l.drop (n + 1)).take m, ?_, hA, hB, ?_, ?_, ?_⟩⟩
    · have e1 : l.getD n 0 = 46 := by
        have := hc.2
        have h46 : (46 : UInt8).toNat = 46 := rfl
        exact UInt8.toNat_inj.1 (by omega)
      have e2 := drop_cons hc.1
      rw [e1] at e2
      show l.take (n + 1 + m) = _
      rw [Nat.add_assoc, List.take_add, e2, Nat.add_comm 1 m, List.take_succ_cons]
      simp
    · rw [List.length_take]; omega
    · rw [List.length_take, List.length_drop]; omega
    · rw [List.length_take, List.length_take, List.length_drop]; omega
  · rw [if_neg hc] at h ⊢
    have hw := wholeL_ok hA h
    refine ⟨by simp, fun _ => ⟨hA, ?_, by have := hw.1; simp only; omega, hw.2⟩, by simp⟩
    intro e
    have := congrArg List.length e
    rw [List.length_take] at this
    simp only [List.length_nil] at this
    omega
theorem oneL_good {l : List UInt8} {p : Int} (hl : 0 < l.length) (h : (oneL l).2.2 = true) : TGood ((oneL l).1, (oneL l).2.1, p) := by
  unfold oneL at h ⊢
  split
  · rename_i hd
    rw [if_pos hd] at h
    exact numL_good hl hd h
  · rename_i hd
    rw [if_neg hd] at h
    split
    · split
      · exact ⟨by simp, by simp, by simp⟩
      · exact ⟨by simp, by simp, by simp⟩
    · rename_i ht
      rw [if_neg ht] at h
      cases hf : firstPre l signs with
      | none => rw [hf] at h; cases h
      | some x => exact ⟨by simp, by simp, by simp⟩
theorem toksN_good : ∀ (n p : Nat) (l : List UInt8) (out : List Tok), l.length < n → (toksN n p l out).2.2 = 0 → ∃ (mid : List Tok) (a : Int), (toksN n p l out).1 = out ++ mid ++ [(0, [], a)] ∧ mid.length ≤ l.length ∧ ∀ t ∈ mid, TGood t
  | 0, _, _, _, h, _ => by omega
  | n + 1, p, l, out, h, e => by
    unfold toksN at e ⊢
    by_cases c : l = []
    · rw [if_pos c] at e ⊢
      exact ⟨[], (p : Int), by simp, by simp, by simp⟩
    · rw [if_neg c] at e ⊢
      have hl : 0 < l.length := List.length_pos_iff.2 c
      by_cases c2p : (oneL l).2.2 = false
      · rw [if_pos c2p] at e; cases e
      · rw [if_neg c2p] at e ⊢
        have ht : (oneL l).2.2 = true := by simpa using c2p
        have ok := oneL_ok hl ht
        obtain ⟨mid, a, e1, e2, e3⟩ := toksN_good n _ _ _ (by rw [List.length_drop]; omega) e
        refine ⟨((oneL l).1, (oneL l).2.1, (p : Int)) :: mid, a, by rw [e1]; simp, ?_, fun t m => ?_⟩
        · rw [List.length_drop] at e2
          simp only [List.length_cons]
          omega
        · simp only [List.mem_cons] at m
          rcases m with rfl | m
          · exact oneL_good hl ht
          · exact e3 t m
theorem tokens_good (x : List UInt8) (h : (tokens x).2.2 = 0) : ∃ (mid : List Tok) (a : Int), (tokens x).1 = mid ++ [(0, [], a)] ∧ mid.length ≤ 4096 ∧ ∀ t ∈ mid, TGood t := by
  unfold tokens at h ⊢
  split at h
  · cases h
  · rename_i c
    rw [if_neg c]
    obtain ⟨mid, a, e1, e2, e3⟩ := toksN_good _ _ _ _ (by rw [List.length_drop]; omega) h
    rw [List.length_drop] at e2
    exact ⟨mid, a, by rw [e1]; simp, by omega, e3⟩
theorem tokens_ok (x : List UInt8) (h : (tokens x).2.2 = 0) : WOk (tokens x).1 ∧ 0 < (tokens x).1.length := by
  obtain ⟨mid, a, e1, e2, e3⟩ := tokens_good x h
  rw [e1]
  refine ⟨⟨⟨by simp; omega, fun i t hi ht => ?_⟩, fun t m k => ?_, fun t m k => ?_⟩, by simp⟩
  · rw [List.getElem?_append] at hi
    split at hi
    · simp; omega
    · rename_i c
      have : i - mid.length = 0 := by
        have := (List.getElem?_eq_some_iff.1 hi).1
        simp at this; omega
      rw [this] at hi
      cases hi
      exact (ht rfl).elim
  · simp only [List.mem_append, List.mem_singleton] at m
    rcases m with m | rfl
    · exact (e3 t m).whole k
    · simp at k
  · simp only [List.mem_append, List.mem_singleton] at m
    rcases m with m | rfl
    · exact (e3 t m).dot k
    · simp at k
end Go.Proofs.YtpagdhbmbnoddaaGreatDoor.Zz
namespace Go.Proofs.YtpagdhbmbnoddaaGreatDoor.Zz
noncomputable section
def p7p : Plan := ⟨⟨[], [(6, 1)], [], [((3, 3), [(.t 3), (.t 4)]), ((3, 4), [(.t 4)])], [], []⟩, [(3, [0, 1, 2, 3, 4, 5])], [], false⟩
def s7p : Stm :=
 .seq (.ops [⟨.alloc [(.int .i64 0), (.int .i64 0), (.str []), (.int .i64 0), .nilsl], some 2, none, false⟩,
 ⟨.alloc [(.int .i64 0)], some 3, none, false⟩,
 ⟨.alloc [(.int .i64 0)], some 4, none, false⟩])
 (.seq (.ops [⟨.mov (.t 0), some 8, none, true⟩,
 ⟨.qcall (.f 16) [(.t 8)], some 9, none, false⟩,
 ⟨.mov (.t 9), some 7, none, true⟩,
 ⟨.extract (.t 7) 0, some 10, none, true⟩,
 ⟨.extract (.t 7) 1, some 11, none, true⟩,
 ⟨.extract (.t 7) 2, some 12, none, true⟩,
 ⟨.mov (.t 10), some 5, none, true⟩,
 ⟨.store 1 (.t 3) (.t 11), none, none, false⟩,
 ⟨.store 1 (.t 4) (.t 12), none, none, false⟩])
 (.seq (.seq (.ops [⟨.load none (.t 4), some 13, none, false⟩,
 ⟨.bin .neq (.t 13) (.c (.int .i64 0)), some 14, none, true⟩])
 (.cond (.t 14)
 (.seq (.opsD 15 [⟨.build [(.int .i64 0), (.int .i64 0), (.str []), (.int .i64 0), .nilsl] [], some 15, none, true⟩,
 ⟨.load none (.t 3), some 16, none, false⟩,
 ⟨.load none (.t 4), some 17, none, false⟩,
 ⟨.storeNe 5 (.t 2) (.t 15) [(.t 3), (.t 4)], none, none, false⟩,
 ⟨.storeNe 1 (.t 3) (.t 16) [(.t 4)], none, none, false⟩,
 ⟨.store 1 (.t 4) (.t 17), none, none, false⟩])
 (.ret))
 (.skip)))
 (.seq (.seq (.ops [⟨.mkFunc (.func 17) [] [(.t 2), (.t 3), (.t 4)], some 18, none, true⟩])
 (.defer (.t 18) []))
 (.seq (.ops [⟨.mov (.t 5), some 19, none, true⟩,
 ⟨.build [.nilsl, (.int .i64 0), (.int .i64 0), (.int .i64 0)] [(0, 1, (.t 19))], some 20, none, true⟩,
 ⟨.box (.t 20), some 21, none, false⟩,
 ⟨.mov (.t 21), some 6, none, true⟩])
 (.seq (.ops [⟨.mov (.t 6), some 22, none, true⟩,
 ⟨.call (.f 18) [(.t 22)], some 23, none, false⟩,
 ⟨.store 5 (.t 2) (.t 23), none, none, false⟩,
 ⟨.store 1 (.t 3) (.c (.int .i64 0)), none, none, false⟩,
 ⟨.store 1 (.t 4) (.c (.int .i64 0)), none, none, false⟩])
 (.ret))))))
theorem st7p : stmOf Tryz.prog 7 p7p = some (s7p, [.cell 2 (some 5), .cell 3 none, .cell 4 none], 24) := by kernel_rfl
def q16p : List D → Option D
  | [.str s] => some (.tuple [.sl (encT (tokens s).1), .int .i64 (tokens s).2.1, .int .i64 (tokens s).2.2])
  | _ => none
theorem q16p_ok (args : List D) (d : D) (h : q16p args = some d) : PCall Tryz.prog 16 args d := by
  unfold q16p at h
  split at h
  · cases h; exact tokens_c _
  · cases h
def cProg (f : Nat) (args : List D) (h : AHeap) (K E : D → AHeap → Prop) : Prop := ∃ (l : List Tok) (s : PS) (id : Nat), args = [.ptr id 1 0] ∧ WOk l ∧ cP (progG l (psF l f)) encN l s id h K E
theorem cProg_mono (f : Nat) (args : List D) (h : AHeap) (K E K' E' : D → AHeap → Prop) (hk : ∀ d h, K d h → K' d h) (he : ∀ d h, E d h → E' d h) (c : cProg f args h K E) : cProg f args h K' E' := by
  obtain ⟨l, s, id, a, b, c⟩ := c
  exact ⟨l, s, id, a, b, cP_mono hk he c⟩
theorem cProg_ok (f : Nat) (args : List D) (h : AHeap) (K E : D → AHeap → Prop) (c : cProg f args h K E) : ACalls Tryz.prog 18 args h (AOut.to K E) := by
  obtain ⟨l, s, id, rfl, hl, c⟩ := c
  exact cP_ok (fun ok K0 E0 hw => program_c f l hl s id ok K0 E0 hw) c
def tb16p : Tab := Tab.zero.addQ 16 q16p
theorem tb16p_q (g : FuncId) (args : List D) : tb16p.q g args = if g = 16 then q16p args else Tab.zero.q g args := rfl
theorem tb16p_a : tb16p.a = Tab.zero.a := rfl
theorem tb16p_c : tb16p.c = Tab.zero.c := rfl
theorem tb16p_ok : tb16p.ok Tryz.prog := Tab.addQ_ok (Tab.zero_ok _) q16p_ok
theorem tb16p_e : type_of% (And.intro @tb16p_q (And.intro @tb16p_a @tb16p_c)) := (And.intro @tb16p_q (And.intro @tb16p_a @tb16p_c))
def tbM (f : Nat) : Tab := tb16p.addE 18 (cProg f) (cProg_mono f)
theorem tbM_ok (f : Nat) : (tbM f).ok Tryz.prog := Tab.addE_ok tb16p_ok fun args h K E c => cProg_ok f args h K E c
theorem tbM_q {f : Nat} : (tbM f).q = tb16p.q := rfl
theorem tbM_a {f : Nat} : (tbM f).a = tb16p.a := rfl
theorem tbM_c {f : Nat} (g : FuncId) (args : List D) (h : AHeap) (K E : D → AHeap → Prop) : (tbM f).c g args h K E = if g = 18 then cProg f args h K E else tb16p.c g args h K E := rfl
theorem tbM_e : type_of% (And.intro (And.intro @tbM_q (And.intro @tbM_a @tbM_c)) @tb16p_e) := (And.intro (And.intro @tbM_q (And.intro @tbM_a @tbM_c)) @tb16p_e)
theorem parse_c (f : Nat) (x : List UInt8) (n : Nd) (a e : Int) (hp : parseF f x = some (n, a, e)) : PCall Tryz.prog 7 [.str x] (.tuple [.agg n.enc, .int .i64 a, .int .i64 e]) := by
  refine ACalls.of_stmD (tbM_ok f) (dc := dRec) dRec_ok (by kernel_rfl) st7p (by simp) ?_
  rw [vc_todo]
  have hq : q16p [.str x] = some (.tuple [.sl (encT (tokens x).1), .int .i64 (tokens x).2.1, .int .i64 (tokens x).2.2]) := rfl
  unfold parseF at hp
  simp (maxSteps := 1000000) only [s7p, hq, tbM_e, tb64p_e, tb16p_e, zzK, seval]
  intro i1  i2 a2_1 b2_1 i3 a3_2 b3_2 a3_1 b3_1
  have hW := tokens_ok x
  generalize tokens x = T at *
  obtain ⟨l, a0, e0⟩ := T
  simp only at hp hW
  by_cases c : e0 = 0
  · subst c
    rw [if_pos rfl] at hp
    obtain ⟨hl, hl0⟩ := hW rfl
    simp (maxSteps := 1000000) only [a2_1, b2_1, a3_2, b3_2, a3_1, b3_1, tbM_e, tb64p_e, tb16p_e, zzK, seval]
    intro i4 a4_3 b4_3 a4_2 b4_2 _ _ _ _ a4_1 b4_1
    have ok : PSok l ⟨0, 0, 0⟩ := ⟨(show (0 : Int) ≤ 0 by omega), (show (0 : Int) < l.length by omega), (show (0 : Int) ≤ 0 by omega), (show (0 : Int) ≤ 2000 by omega), (show (0 : Int) ≤ 0 by omega), (show (0 : Int) ≤ 40 by omega)⟩
    refine ⟨l, ⟨0, 0, 0⟩, i4, rfl, hl, by simp [pObj], ok, ?_⟩
    cases hr : progG l (psF l f) ⟨0, 0, 0⟩ with
    | out => rw [hr] at hp; cases hp
    | ok m s' =>
      rw [hr] at hp
      cases hp
      rw [wpR_ok]
      intro ok'
      obtain ⟨nk, nt, ns, nm, nl⟩ := n
      simp (maxSteps := 1000000) only [a2_1, b2_1, a3_2, b3_2, a3_1, b3_1, a4_3, b4_3, a4_2, b4_2, a4_1, b4_1, encN, enc_mk, retD_ret, leav_func, leav_nil, tbM_e, tb64p_e, tb16p_e, zzK, seval]
      refine ⟨rfl, i1, i2, i3, [.int .i64 nk, .int .i64 nt, .str ns, .int .i64 nm, .sl (Nd.encs nl)], .int .i64 0, .int .i64 0, rfl, rfl, (by simp [a2_1, b2_1, a3_2, b3_2, a3_1, b3_1, a4_3, b4_3, a4_2, b4_2, a4_1, b4_1]), (by simp [a2_1, b2_1, a3_2, b3_2, a3_1, b3_1, a4_3, b4_3, a4_2, b4_2, a4_1, b4_1]), (by simp [a2_1, b2_1, a3_2, b3_2, a3_1, b3_1, a4_3, b4_3, a4_2, b4_2, a4_1, b4_1]), a2_1, b2_1, a3_1, b3_1, a3_2, b3_2, .inl ⟨rfl, ?_⟩⟩
      simp (maxSteps := 1000000) only [a2_1, b2_1, a3_2, b3_2, a3_1, b3_1, a4_3, b4_3, a4_2, b4_2, a4_1, b4_1, finD, zzK, seval]
      exact .inl ⟨_, AHeap.sub_refl _⟩
    | fail a' e' =>
      rw [hr] at hp
      cases hp
      rw [wpR_fail]
      intro s'
      simp (maxSteps := 1000000) only [panD, leav_func, leav_nil, List.nil_append, List.append_nil]
      refine ⟨rfl, i1, i2, i3, [.int .i64 0, .int .i64 0, .str [], .int .i64 0, .nilsl], .int .i64 a0, .int .i64 0, rfl, rfl, (by simp [a2_1, b2_1, a3_2, b3_2, a3_1, b3_1, a4_3, b4_3, a4_2, b4_2, a4_1, b4_1]), (by simp [a2_1, b2_1, a3_2, b3_2, a3_1, b3_1, a4_3, b4_3, a4_2, b4_2, a4_1, b4_1]), (by simp [a2_1, b2_1, a3_2, b3_2, a3_1, b3_1, a4_3, b4_3, a4_2, b4_2, a4_1, b4_1]), a2_1, b2_1, a3_1, b3_1, a3_2, b3_2, .inr ⟨a, e, rfl, ?_⟩⟩
      simp (maxSteps := 1000000) only [leav_nil, finD, enc_mk, encs_nil, a2_1, b2_1, a3_2, b3_2, a3_1, b3_1, a4_3, b4_3, a4_2, b4_2, a4_1, b4_1, zzK, seval]
      exact .inr ⟨_, AHeap.sub_refl _⟩
  · rw [if_neg c] at hp
    have g : (e0 != 0) = true := by simpa using c
    cases hp
    simp (maxSteps := 1000000) only [a2_1, b2_1, a3_2, b3_2, a3_1, b3_1, g, retD_ret, leav_nil, finD, tbM_e, tb64p_e, tb16p_e, zzK, seval]
    have m12 : (!i1 == i2) = true := by simp [b2_1]
    have m13 : (!i1 == i3) = true := by simp [b3_1]
    have m23 : (!i2 == i3) = true := by simp [b3_2]
    refine ⟨by simp [m12, m13], ?_⟩
    simp (maxSteps := 1000000) only [a2_1, b2_1, a3_2, b3_2, a3_1, b3_1, g, m12, m13, m23, retD_ret, leav_nil, finD, tbM_e, tb64p_e, tb16p_e, zzK, seval]
    exact .inr ⟨_, AHeap.sub_refl _, by rw [enc_mk, encs_nil]⟩
def qParse (f : Nat) : List D → Option D
  | [.str x] => (parseF f x).map fun y => .tuple [.agg y.1.enc, .int .i64 y.2.1, .int .i64 y.2.2]
  | _ => none
theorem qParse_ok (f : Nat) (args : List D) (d : D) (h : qParse f args = some d) : PCall Tryz.prog 7 args d := by
  unfold qParse at h
  split at h
  · simp only [Option.map_eq_some_iff] at h
    obtain ⟨⟨n, a, e⟩, h1, rfl⟩ := h
    exact parse_c f _ n a e h1
  · cases h
end
end Go.Proofs.YtpagdhbmbnoddaaGreatDoor.Zz
