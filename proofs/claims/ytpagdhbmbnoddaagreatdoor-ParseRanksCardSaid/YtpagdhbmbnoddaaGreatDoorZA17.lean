/- Contracts: programs. -/
import Derived.Test.YtpagdhbmbnoddaaGreatDoorZP13
import Derived.Test.YtpagdhbmbnoddaaGreatDoorZP17
import Derived.Test.YtpagdhbmbnoddaaGreatDoorZR1
import Derived.Test.YtpagdhbmbnoddaaGreatDoorZP1
set_option linter.unnecessarySimpa false
namespace Go.Proofs.YtpagdhbmbnoddaaGreatDoor.Zz
noncomputable section
set_option linter.unusedVariables false
set_option linter.unusedSimpArgs false
set_option maxRecDepth 20000
def p18p : Plan := ⟨⟨[(1, 2)], [(1, 2), (3, 1), (4, 1), (8, 1), (9, 3)], [], [((9, 3), [(.t 3)])], [((9, 1), (.t 3))], []⟩, [(9, [0, 1, 2, 3, 4, 5, 6, 7])], [], false⟩
/-- (*cupel/parse.parser).program (1 parameters, 0 captured) -/
def s18p : Stm :=
 .seq (.ops [⟨.alloc [(.int .i64 0), (.int .i64 0), (.str []), (.int .i64 0), .nilsl], (some 2), none, false⟩])
 (.seq (.ops [⟨.mov (.t 0), (some 6), none, true⟩,
 ⟨.build [(.int .i64 0), (.int .i64 0), (.str []), (.int .i64 0), .nilsl] [(0, 1, (.c (.int .i64 1)))], (some 7), none, true⟩,
 ⟨.callR (.f 32) [(.t 6), (.t 7)], (some 8), none, false⟩,
 ⟨.alloc [(.int .i64 0), (.int .i64 0), (.str []), (.int .i64 0), .nilsl], (some 3), none, false⟩,
 ⟨.store 5 (.t 3) (.t 8), none, none, false⟩])
 (.seq (.ops [⟨.mov (.c (.int .i64 0)), (some 4), none, true⟩,
 ⟨.mov (.c (.int .i64 0)), (some 5), none, true⟩])
 (.seq (.block 0 (.loop (.seq (.seq (.ops [⟨.mov (.t 0), (some 9), none, true⟩,
 ⟨.call (.f 33) [(.t 9)], (some 10), none, false⟩,
 ⟨.field 0 none (.t 10), (some 11), none, true⟩,
 ⟨.bin .neq (.t 11) (.c (.int .i64 0)), (some 12), none, true⟩])
 (.cond (.t 12)
 (.skip)
 (.exit 0)))
 (.block 1 (.seq (.seq (.ops [⟨.mov (.t 0), (some 13), none, true⟩,
 ⟨.call (.f 34) [(.t 13), (.c (.str [118, 97, 114]))], (some 14), none, false⟩])
 (.cond (.t 14)
 (.ops [⟨.mov (.t 5), (some 15), none, true⟩,
 ⟨.bin .add (.t 15) (.c (.int .i64 1)), (some 16), none, true⟩,
 ⟨.mov (.t 16), (some 5), none, true⟩])
 (.ops [⟨.mov (.t 4), (some 17), none, true⟩,
 ⟨.bin .add (.t 17) (.c (.int .i64 1)), (some 18), none, true⟩,
 ⟨.mov (.t 18), (some 4), none, true⟩])))
 (.seq (.seq (.ops [⟨.mov (.t 5), (some 19), none, true⟩,
 ⟨.bin .gtr (.t 19) (.c (.int .i64 16)), (some 20), none, true⟩,
 ⟨.mov (.t 20), (some 21), none, true⟩,
 ⟨.mov (.t 4), (some 22), (some (21, false)), true⟩,
 ⟨.bin .gtr (.t 22) (.c (.int .i64 32)), (some 23), (some (21, false)), true⟩,
 ⟨.pick (.t 21) (.c (.bool true)) (.t 23), (some 24), none, true⟩])
 (.cond (.t 24)
 (.ops [⟨.mov (.t 0), (some 25), none, true⟩,
 ⟨.call (.f 35) [(.t 25), (.c (.int .i64 3))], (some 26), none, false⟩])
 (.skip)))
 (.opsD [⟨.fieldAddr 4 (.t 3), (some 27), none, true⟩,
 ⟨.loadOf none (.t 27) (.t 3), (some 28), none, false⟩,
 ⟨.mov (.t 0), (some 29), none, true⟩,
 ⟨.callNe (.f 36) [(.t 29)] [(.t 3)], (some 30), none, false⟩,
 ⟨.buildSlice 5 [(.int .i64 0), (.int .i64 0), (.str []), (.int .i64 0), .nilsl] 1 [(0, (.t 30))] false, (some 31), none, true⟩,
 ⟨.append 5 64 false (.t 28) (.t 31), (some 32), none, false⟩,
 ⟨.fieldAddr 4 (.t 3), (some 33), none, true⟩,
 ⟨.store 1 (.t 33) (.t 32), none, none, false⟩])))))))
 (.seq (.ops [⟨.load (some 5) (.t 3), (some 34), none, false⟩,
 ⟨.store 5 (.t 2) (.t 34), none, none, false⟩])
 (.ret)))))
theorem st18p : stmOf Tryz.prog 18 p18p = some (s18p, [.cell 2 (some 5)], 35) := by kernel_rfl

def cDecl (f : Nat) (args : List D) (h : AHeap) (K E : D → AHeap → Prop) : Prop := ∃ (l : List Tok) (s : PS) (id : Nat), args = [.ptr id 1 0] ∧ WOk l ∧ cP (declG l (psF l f)) encN l s id h K E
theorem cDecl_mono (f : Nat) (args : List D) (h : AHeap) (K E K' E' : D → AHeap → Prop) (hk : ∀ d h, K d h → K' d h) (he : ∀ d h, E d h → E' d h) (c : cDecl f args h K E) : cDecl f args h K' E' := by
  obtain ⟨l, s, id, a, b, c⟩ := c
  exact ⟨l, s, id, a, b, cP_mono hk he c⟩
def tbD (f : Nat) : Tab := (tbG fun l => psF l f).addE 36 (cDecl f) (cDecl_mono f)
theorem tbD_q {f : Nat} : (tbD f).q = (tbG fun l => psF l f).q := rfl
theorem tbD_a {f : Nat} : (tbD f).a = (tbG fun l => psF l f).a := rfl
theorem tbD_c {f : Nat} (g : FuncId) (args : List D) (h : AHeap) (K E : D → AHeap → Prop) : (tbD f).c g args h K E = if g = 36 then cDecl f args h K E else (tbG fun l => psF l f).c g args h K E := rfl
theorem tbD_e : type_of% (And.intro @tbD_q (And.intro @tbD_a @tbD_c)) := And.intro @tbD_q (And.intro @tbD_a @tbD_c)
theorem tbD_ok (f : Nat) : (tbD f).ok Tryz.prog := Tab.addE_ok (tbF_ok f) fun args h K E c => declF_ok f args h K E c
set_option maxHeartbeats 1000000 in
theorem program_c (f : Nat) (l : List Tok) (hl : WOk l) (s : PS) (i1 : Nat) (ok : PSok l s) (K0 : Nd → PS → Prop) (E0 : Int → Int → Prop) (hw : wpR (progG l (psF l f) s) (fun x s' => PSok l s' → K0 x s') E0) : ACalls Tryz.prog 18 [.ptr i1 1 0] (AHeap.emp.set i1 (pObj l s)) (retP encN l i1 K0 E0) := by
  refine ACalls.of_stmD (tbD_ok f) (dc := DTab.none) (fun _ _ => DTab.none_ok) (by kernel_rfl) st18p (by simp) ?_
  rw [vc_todo]
  have hp := fun (h : AHeap) (j : Nat) (B C : AObj) => push_id (id := i1) h j B C
  unfold progG at hw
  rw [wpR_bind] at hw
  simp (config := {maxSteps := 1000000}) only [s18p, tbD_e, i_callR, hp, hp, len_enc, enc_ok, enc_unnil, part_enc, take5, set5, setE, retD_ret, retD_normal, leav_nil, leav_func, finD, tbG_e, tb64p_e, zzK, seval]
  intro i2 a2_1 b2_1
  refine .inr ⟨l, s, i1, .mk 1 0 [] 0 [], rfl, hl.lo, (by simp [a2_1, b2_1]), ok, wpR_mono' (fun n s1p e1 k ok1 => ?_) (fun a e k s' => ?_) hw⟩
  case refine_2 =>
    simp only [panD, leav_nil, finD]
    exact mid_pan (s' := s') (by simp [a2_1, b2_1]) k
  have hn := pNode_eq e1
  subst hn
  simp (config := {maxSteps := 1000000}) only [encZ, tbD_e, hp, a2_1, b2_1, len_enc, enc_ok, enc_unnil, part_enc, take5, set5, setE, retD_ret, retD_normal, leav_nil, leav_func, finD, tbG_e, tb64p_e, zzK, seval]
  intro i3 a3_2 b3_2 a3_1 b3_1
  refine run_loop (X := Nat × Nd × Nat × PS × Int × Int) (fun z => [(0, .ptr i1 1 0), (2, .ptr i2 1 0), (3, .ptr i3 1 0), (4, .int .i64 z.2.2.2.2.1), (5, .int .i64 z.2.2.2.2.2)])
    (fun z => withK (((AHeap.emp.set i1 (pObj l z.2.2.2.1)).set i2 (.cells [.int .i64 0, .int .i64 0, .str [], .int .i64 0, .nilsl])).set i3 (.cells (encW z.2.1 z.2.2.1))) z.2.1 z.2.2.1) (fun z => z.1)
    (fun z => PSok l z.2.2.2.1 ∧ wpR (progL l (psF l f) z.1 z.2.2.2.2.1 z.2.2.2.2.2 z.2.1 z.2.2.2.1) (fun x s' => PSok l s' → K0 x s') E0 ∧ (z.2.1.kidsOf ≠ [] → ¬ z.2.2.1 = i1 ∧ ¬ z.2.2.1 = i2 ∧ ¬ z.2.2.1 = i3) ∧ 0 ≤ z.2.2.2.2.1 ∧ z.2.2.2.2.1 ≤ 32 ∧ 0 ≤ z.2.2.2.2.2 ∧ z.2.2.2.2.2 ≤ 16 ∧ (z.2.1.kidsOf.length : Int) ≤ z.2.2.2.2.1 + z.2.2.2.2.2)
    (l.length + 1, .mk 1 0 [] 0 [], 0, s1p, 0, 0) ⟨ok1, k, fun h => absurd rfl h, (show (0 : Int) ≤ 0 by omega), (show (0 : Int) ≤ 32 by omega), (show (0 : Int) ≤ 0 by omega), (show (0 : Int) ≤ 16 by omega), (show ((0 : Nat) : Int) ≤ 0 + 0 by omega)⟩ (by simp only [tb64p_e, zzK, seval]) (AHeap.sub_refl _) ?_
  clear hw
  rintro ⟨j, n, r, s0p, fs, gs⟩ Q ⟨ok0, hw, hr, f0, f1, g0, g1, h6⟩ hQ
  simp only at ok0 hw hr h6 f0 f1 g0 g1 hQ ⊢
  cases j with
  | zero => exact hw.elim
  | succ j =>
  unfold progL at hw
  obtain ⟨nk, nt, ns, nm, nl⟩ := n
  simp only [Nd.kidsOf] at hw hr h6
  by_cases hnl : nl = []
  · subst hnl
    have hH : ∀ h : AHeap, withK h (.mk nk nt ns nm []) r = h := fun h => if_pos rfl
    rw [hH, encW, List.length_nil, ownD_zero]
    simp (config := {maxSteps := 1000000}) only [tbD_e, hp, a2_1, b2_1, a3_2, b3_2, a3_1, b3_1, len_enc, enc_ok, enc_unnil, part_enc, take5, set5, setE, retD_ret, retD_normal, leav_nil, leav_func, finD, tbG_e, tb64p_e, zzK, seval]
    refine ⟨l, s0p, i1, rfl, (by simp [a2_1, b2_1, a3_2, b3_2, a3_1, b3_1]), ok0.at_, ?_⟩
    cases c1p : ((pNow l s0p).1 != 0) with
    | false =>
      have k := wpR_no (q := (.ok (Nd.mk nk nt ns nm []) s0p : PR Nd)) c1p hw
      rw [wpR_ok] at k
      generalize pNow l s0p = t at *
      obtain ⟨kk, y, a⟩ := t
      simp only at c1p
      simp (config := {maxSteps := 1000000}) only [tokD, c1p, tbD_e, hp, a2_1, b2_1, a3_2, b3_2, a3_1, b3_1, len_enc, enc_ok, enc_unnil, part_enc, take5, set5, setE, retD_ret, retD_normal, leav_nil, leav_func, finD, tbG_e, tb64p_e, zzK, seval]
      exact mid_ret' (x := .mk nk nt ns nm []) (s' := s0p) (by rw [encN, enc_mk, encs_nil]) (by simp [a2_1, b2_1, a3_2, b3_2, a3_1, b3_1]) (k ok0)
    | true =>
      have k := wpR_yes c1p hw
      have hnow : pIs l wVar s0p = pIs l wVar s0p := rfl
      generalize hv : pIs l wVar s0p = v at k
      generalize pNow l s0p = t at c1p
      obtain ⟨kk, y, a⟩ := t
      simp only at c1p
      simp (config := {maxSteps := 1000000}) only [tokD, c1p, tbD_e, hp, a2_1, b2_1, a3_2, b3_2, a3_1, b3_1, len_enc, enc_ok, enc_unnil, part_enc, take5, set5, setE, retD_ret, retD_normal, leav_nil, leav_func, finD, tbG_e, tb64p_e, zzK, seval]
      refine ⟨l, s0p, i1, wVar, rfl, (by simp [a2_1, b2_1, a3_2, b3_2, a3_1, b3_1]), ok0.at_, ?_⟩
      rw [hv]
      clear hnow
      cases v with
      | true =>
        have w2 : IntKind.i64.wrap (gs + 1) = gs + 1 := wrap_i64 (by omega) (by omega)
        by_cases c3p : gs + 1 > 16
        · have q1p : (gs + 1 > 16) = True := eq_true c3p
          have q2p : (fs > 32) = False := eq_false (by omega)
          replace k := wpR_yes (p := (pFail l 3 s0p : PR Nd)) (by simp only [cond_true, cond_false, Bool.or_eq_true, decide_eq_true_eq]; omega) k
          simp (config := {maxSteps := 1000000}) only [w2, q1p, q2p, tbD_e, hp, a2_1, b2_1, a3_2, b3_2, a3_1, b3_1, len_enc, enc_ok, enc_unnil, part_enc, take5, set5, setE, retD_ret, retD_normal, leav_nil, leav_func, finD, tbG_e, tb64p_e, zzK, seval]
          refine ⟨l, s0p, i1, 3, rfl, (by simp [a2_1, b2_1, a3_2, b3_2, a3_1, b3_1]), ok0.at_, ?_⟩
          simp only [panD]
          show leav DTab.none [] _ _ _
          simp only [leav_nil, finD]
          exact mid_pan (s' := s0p) (by simp [a2_1, b2_1, a3_2, b3_2, a3_1, b3_1]) k
        · have q1p : (gs + 1 > 16) = False := eq_false c3p
          have q2p : (fs > 32) = False := eq_false (by omega)
          replace k := wpR_no (q := ((declG l (psF l f) s0p).bind fun d s => progL l (psF l f) j (fs) (gs + 1) ((Nd.mk nk nt ns nm []).addKid d) s)) (by simp only [cond_true, cond_false, Bool.or_eq_false_iff, decide_eq_false_iff_not]; omega) k
          rw [wpR_bind] at k
          simp (config := {maxSteps := 1000000}) only [w2, q1p, q2p, tbD_e, hp, a2_1, b2_1, a3_2, b3_2, a3_1, b3_1, len_enc, enc_ok, enc_unnil, part_enc, take5, set5, setE, retD_ret, retD_normal, leav_nil, leav_func, finD, tbG_e, tb64p_e, zzK, seval]
          refine ⟨l, s0p, i1, rfl, hl, (by simp [a2_1, b2_1, a3_2, b3_2, a3_1, b3_1]), ok0, wpR_mono' (fun y s1p e1 k ok1 => ?_) (fun a e k s' => ?_) k⟩
          case refine_2 =>
            intro σ hσ
            simp only [panD]
            rw [hσ]
            show leav DTab.none [] _ _ _
            simp only [leav_nil, finD]
            exact mid_pan (s' := s') (by simp [a2_1, b2_1, a3_2, b3_2, a3_1, b3_1]) k
          simp (config := {maxSteps := 1000000}) only [encN, tbD_e, hp, a2_1, b2_1, a3_2, b3_2, a3_1, b3_1, len_enc, enc_ok, enc_unnil, part_enc, take5, set5, setE, retD_ret, retD_normal, leav_nil, leav_func, finD, tbG_e, tb64p_e, zzK, seval]
          intro i4 a4_3 b4_3 a4_2 b4_2 a4_1 b4_1
          simp (config := {maxSteps := 1000000}) only [tbD_e, hp, a2_1, b2_1, a3_2, b3_2, a3_1, b3_1, a4_3, b4_3, a4_2, b4_2, a4_1, b4_1, len_enc, enc_ok, enc_unnil, part_enc, take5, set5, setE, retD_ret, retD_normal, leav_nil, leav_func, finD, tbG_e, tb64p_e, zzK, seval]
          refine hQ (j, .mk nk nt ns nm [y], i4, s1p, fs, gs + 1) _ _ ⟨ok1, k, fun _ => ⟨a4_1, a4_2, a4_3⟩, by simp only; omega, by simp only; omega, by simp only; omega, by simp only; omega, by simp only [Nd.kidsOf, List.length_cons, List.length_nil]; omega⟩ (by simp only [tb64p_e, zzK, seval]) ?_ (by simp only; omega)
          simp only [withK, Nd.kidsOf, encW, List.length_cons, List.length_nil, encs_cons, encs_nil, reduceCtorEq, if_false, ownD_pos (Nat.succ_ne_zero 0)]
          exact AHeap.sub_X (by repeat' first | with_reducible exact AHeap.subX_refl | with_reducible exact AHeap.subX_emp | refine AHeap.subX_l (by simp [a2_1, b2_1, a3_2, b3_2, a3_1, b3_1, a4_3, b4_3, a4_2, b4_2, a4_1, b4_1]) ?_ | refine AHeap.subX_r (by simp [a2_1, b2_1, a3_2, b3_2, a3_1, b3_1, a4_3, b4_3, a4_2, b4_2, a4_1, b4_1]) ?_)
      | false =>
        have w2 : IntKind.i64.wrap (fs + 1) = fs + 1 := wrap_i64 (by omega) (by omega)
        by_cases c3p : fs + 1 > 32
        · have q2p : (fs + 1 > 32) = True := eq_true c3p
          have q1p : (gs > 16) = False := eq_false (by omega)
          replace k := wpR_yes (p := (pFail l 3 s0p : PR Nd)) (by simp only [cond_true, cond_false, Bool.or_eq_true, decide_eq_true_eq]; omega) k
          simp (config := {maxSteps := 1000000}) only [w2, q1p, q2p, tbD_e, hp, a2_1, b2_1, a3_2, b3_2, a3_1, b3_1, len_enc, enc_ok, enc_unnil, part_enc, take5, set5, setE, retD_ret, retD_normal, leav_nil, leav_func, finD, tbG_e, tb64p_e, zzK, seval]
          refine ⟨l, s0p, i1, 3, rfl, (by simp [a2_1, b2_1, a3_2, b3_2, a3_1, b3_1]), ok0.at_, ?_⟩
          simp only [panD]
          show leav DTab.none [] _ _ _
          simp only [leav_nil, finD]
          exact mid_pan (s' := s0p) (by simp [a2_1, b2_1, a3_2, b3_2, a3_1, b3_1]) k
        · have q2p : (fs + 1 > 32) = False := eq_false c3p
          have q1p : (gs > 16) = False := eq_false (by omega)
          replace k := wpR_no (q := ((declG l (psF l f) s0p).bind fun d s => progL l (psF l f) j (fs + 1) (gs) ((Nd.mk nk nt ns nm []).addKid d) s)) (by simp only [cond_true, cond_false, Bool.or_eq_false_iff, decide_eq_false_iff_not]; omega) k
          rw [wpR_bind] at k
          simp (config := {maxSteps := 1000000}) only [w2, q1p, q2p, tbD_e, hp, a2_1, b2_1, a3_2, b3_2, a3_1, b3_1, len_enc, enc_ok, enc_unnil, part_enc, take5, set5, setE, retD_ret, retD_normal, leav_nil, leav_func, finD, tbG_e, tb64p_e, zzK, seval]
          refine ⟨l, s0p, i1, rfl, hl, (by simp [a2_1, b2_1, a3_2, b3_2, a3_1, b3_1]), ok0, wpR_mono' (fun y s1p e1 k ok1 => ?_) (fun a e k s' => ?_) k⟩
          case refine_2 =>
            intro σ hσ
            simp only [panD]
            rw [hσ]
            show leav DTab.none [] _ _ _
            simp only [leav_nil, finD]
            exact mid_pan (s' := s') (by simp [a2_1, b2_1, a3_2, b3_2, a3_1, b3_1]) k
          simp (config := {maxSteps := 1000000}) only [encN, tbD_e, hp, a2_1, b2_1, a3_2, b3_2, a3_1, b3_1, len_enc, enc_ok, enc_unnil, part_enc, take5, set5, setE, retD_ret, retD_normal, leav_nil, leav_func, finD, tbG_e, tb64p_e, zzK, seval]
          intro i4 a4_3 b4_3 a4_2 b4_2 a4_1 b4_1
          simp (config := {maxSteps := 1000000}) only [tbD_e, hp, a2_1, b2_1, a3_2, b3_2, a3_1, b3_1, a4_3, b4_3, a4_2, b4_2, a4_1, b4_1, len_enc, enc_ok, enc_unnil, part_enc, take5, set5, setE, retD_ret, retD_normal, leav_nil, leav_func, finD, tbG_e, tb64p_e, zzK, seval]
          refine hQ (j, .mk nk nt ns nm [y], i4, s1p, fs + 1, gs) _ _ ⟨ok1, k, fun _ => ⟨a4_1, a4_2, a4_3⟩, by simp only; omega, by simp only; omega, by simp only; omega, by simp only; omega, by simp only [Nd.kidsOf, List.length_cons, List.length_nil]; omega⟩ (by simp only [tb64p_e, zzK, seval]) ?_ (by simp only; omega)
          simp only [withK, Nd.kidsOf, encW, List.length_cons, List.length_nil, encs_cons, encs_nil, reduceCtorEq, if_false, ownD_pos (Nat.succ_ne_zero 0)]
          exact AHeap.sub_X (by repeat' first | with_reducible exact AHeap.subX_refl | with_reducible exact AHeap.subX_emp | refine AHeap.subX_l (by simp [a2_1, b2_1, a3_2, b3_2, a3_1, b3_1, a4_3, b4_3, a4_2, b4_2, a4_1, b4_1]) ?_ | refine AHeap.subX_r (by simp [a2_1, b2_1, a3_2, b3_2, a3_1, b3_1, a4_3, b4_3, a4_2, b4_2, a4_1, b4_1]) ?_)
  · obtain ⟨i4, rfl⟩ : ∃ q, q = r := ⟨r, rfl⟩
    obtain ⟨a4_1, a4_2, a4_3⟩ := hr hnl
    have b4_1 : ¬ i1 = i4 := fun e => a4_1 e.symm
    have b4_2 : ¬ i2 = i4 := fun e => a4_2 e.symm
    have b4_3 : ¬ i3 = i4 := fun e => a4_3 e.symm
    have hH : ∀ h : AHeap, withK h (.mk nk nt ns nm nl) i4 = h.set i4 (.row 5 (nl.length + 2) (Nd.encs nl) false) := fun h => if_neg hnl
    have hl0 : nl.length ≠ 0 := fun e => hnl (List.length_eq_zero_iff.1 e)
    have tk : (Nd.encs nl).take nl.length = Nd.encs nl := List.take_of_length_le (by rw [len_encs]; omega)
    rw [hH, encW, ownD_pos hl0]
    simp (config := {maxSteps := 1000000}) only [tbD_e, hp, a2_1, b2_1, a3_2, b3_2, a3_1, b3_1, a4_3, b4_3, a4_2, b4_2, a4_1, b4_1, len_enc, enc_ok, enc_unnil, part_enc, take5, set5, setE, retD_ret, retD_normal, leav_nil, leav_func, finD, tbG_e, tb64p_e, zzK, seval]
    refine ⟨l, s0p, i1, rfl, (by simp [a2_1, b2_1, a3_2, b3_2, a3_1, b3_1, a4_3, b4_3, a4_2, b4_2, a4_1, b4_1]), ok0.at_, ?_⟩
    cases c1p : ((pNow l s0p).1 != 0) with
    | false =>
      have k := wpR_no (q := (.ok (Nd.mk nk nt ns nm nl) s0p : PR Nd)) c1p hw
      rw [wpR_ok] at k
      generalize pNow l s0p = t at *
      obtain ⟨kk, y, a⟩ := t
      simp only at c1p
      simp (config := {maxSteps := 1000000}) only [tokD, c1p, len_encs, tk, tbD_e, hp, a2_1, b2_1, a3_2, b3_2, a3_1, b3_1, a4_3, b4_3, a4_2, b4_2, a4_1, b4_1, len_enc, enc_ok, enc_unnil, part_enc, take5, set5, setE, retD_ret, retD_normal, leav_nil, leav_func, finD, tbG_e, tb64p_e, zzK, seval]
      exact mid_ret' (x := .mk nk nt ns nm nl) (s' := s0p) (by rw [encN, enc_mk]) (by simp [a2_1, b2_1, a3_2, b3_2, a3_1, b3_1, a4_3, b4_3, a4_2, b4_2, a4_1, b4_1]) (k ok0)
    | true =>
      have k := wpR_yes c1p hw
      generalize hv : pIs l wVar s0p = v at k
      generalize pNow l s0p = t at c1p
      obtain ⟨kk, y, a⟩ := t
      simp only at c1p
      simp (config := {maxSteps := 1000000}) only [tokD, c1p, tbD_e, hp, a2_1, b2_1, a3_2, b3_2, a3_1, b3_1, a4_3, b4_3, a4_2, b4_2, a4_1, b4_1, len_enc, enc_ok, enc_unnil, part_enc, take5, set5, setE, retD_ret, retD_normal, leav_nil, leav_func, finD, tbG_e, tb64p_e, zzK, seval]
      refine ⟨l, s0p, i1, wVar, rfl, (by simp [a2_1, b2_1, a3_2, b3_2, a3_1, b3_1, a4_3, b4_3, a4_2, b4_2, a4_1, b4_1]), ok0.at_, ?_⟩
      rw [hv]
      cases v with
      | true =>
        have w2 : IntKind.i64.wrap (gs + 1) = gs + 1 := wrap_i64 (by omega) (by omega)
        by_cases c3p : gs + 1 > 16
        · have q1p : (gs + 1 > 16) = True := eq_true c3p
          have q2p : (fs > 32) = False := eq_false (by omega)
          replace k := wpR_yes (p := (pFail l 3 s0p : PR Nd)) (by simp only [cond_true, cond_false, Bool.or_eq_true, decide_eq_true_eq]; omega) k
          simp (config := {maxSteps := 1000000}) only [w2, q1p, q2p, len_encs, tbD_e, hp, a2_1, b2_1, a3_2, b3_2, a3_1, b3_1, a4_3, b4_3, a4_2, b4_2, a4_1, b4_1, len_enc, enc_ok, enc_unnil, part_enc, take5, set5, setE, retD_ret, retD_normal, leav_nil, leav_func, finD, tbG_e, tb64p_e, zzK, seval]
          refine ⟨l, s0p, i1, 3, rfl, (by simp [a2_1, b2_1, a3_2, b3_2, a3_1, b3_1, a4_3, b4_3, a4_2, b4_2, a4_1, b4_1]), ok0.at_, ?_⟩
          simp only [panD]
          show leav DTab.none [] _ _ _
          simp only [leav_nil, finD]
          exact mid_pan (s' := s0p) (by simp [a2_1, b2_1, a3_2, b3_2, a3_1, b3_1, a4_3, b4_3, a4_2, b4_2, a4_1, b4_1]) k
        · have q1p : (gs + 1 > 16) = False := eq_false c3p
          have q2p : (fs > 32) = False := eq_false (by omega)
          replace k := wpR_no (q := ((declG l (psF l f) s0p).bind fun d s => progL l (psF l f) j (fs) (gs + 1) ((Nd.mk nk nt ns nm nl).addKid d) s)) (by simp only [cond_true, cond_false, Bool.or_eq_false_iff, decide_eq_false_iff_not]; omega) k
          rw [wpR_bind] at k
          simp (config := {maxSteps := 1000000}) only [w2, q1p, q2p, len_encs, tbD_e, hp, a2_1, b2_1, a3_2, b3_2, a3_1, b3_1, a4_3, b4_3, a4_2, b4_2, a4_1, b4_1, len_enc, enc_ok, enc_unnil, part_enc, take5, set5, setE, retD_ret, retD_normal, leav_nil, leav_func, finD, tbG_e, tb64p_e, zzK, seval]
          refine ⟨l, s0p, i1, rfl, hl, (by simp [a2_1, b2_1, a3_2, b3_2, a3_1, b3_1, a4_3, b4_3, a4_2, b4_2, a4_1, b4_1]), ok0, wpR_mono' (fun y s1p e1 k ok1 => ?_) (fun a e k s' => ?_) k⟩
          case refine_2 =>
            intro σ hσ
            simp only [panD]
            rw [hσ]
            show leav DTab.none [] _ _ _
            simp only [leav_nil, finD]
            exact mid_pan (s' := s') (by simp [a2_1, b2_1, a3_2, b3_2, a3_1, b3_1, a4_3, b4_3, a4_2, b4_2, a4_1, b4_1]) k
          simp (config := {maxSteps := 1000000}) only [encN, len_encs, tbD_e, hp, a2_1, b2_1, a3_2, b3_2, a3_1, b3_1, a4_3, b4_3, a4_2, b4_2, a4_1, b4_1, len_enc, enc_ok, enc_unnil, part_enc, take5, set5, setE, retD_ret, retD_normal, leav_nil, leav_func, finD, tbG_e, tb64p_e, zzK, seval]
          refine ⟨by omega, hQ (j, .mk nk nt ns nm (nl ++ [y]), i4, s1p, fs, gs + 1) _ _ ⟨ok1, k, fun _ => ⟨a4_1, a4_2, a4_3⟩, by simp only; omega, by simp only; omega, by simp only; omega, by simp only; omega, by simp only [Nd.kidsOf, List.length_append, List.length_cons, List.length_nil]; omega⟩ (by simp only [tb64p_e, zzK, seval]) ?_ (by simp only; omega)⟩
          have hne : nl ++ [y] ≠ [] := by simp
          simp only [withK, Nd.kidsOf, encW, List.length_append, List.length_cons, List.length_nil, hne, if_false, ← encs_snoc, ownD_pos (show nl.length + (0 + 1) ≠ 0 by omega)]
          rw [show nl.length + 2 + 1 = nl.length + (0 + 1) + 2 by omega]
          exact AHeap.sub_X (by repeat' first | with_reducible exact AHeap.subX_refl | with_reducible exact AHeap.subX_emp | refine AHeap.subX_l (by simp [a2_1, b2_1, a3_2, b3_2, a3_1, b3_1, a4_3, b4_3, a4_2, b4_2, a4_1, b4_1]) ?_ | refine AHeap.subX_r (by simp [a2_1, b2_1, a3_2, b3_2, a3_1, b3_1, a4_3, b4_3, a4_2, b4_2, a4_1, b4_1]) ?_)
      | false =>
        have w2 : IntKind.i64.wrap (fs + 1) = fs + 1 := wrap_i64 (by omega) (by omega)
        by_cases c3p : fs + 1 > 32
        · have q2p : (fs + 1 > 32) = True := eq_true c3p
          have q1p : (gs > 16) = False := eq_false (by omega)
          replace k := wpR_yes (p := (pFail l 3 s0p : PR Nd)) (by simp only [cond_true, cond_false, Bool.or_eq_true, decide_eq_true_eq]; omega) k
          simp (config := {maxSteps := 1000000}) only [w2, q1p, q2p, len_encs, tbD_e, hp, a2_1, b2_1, a3_2, b3_2, a3_1, b3_1, a4_3, b4_3, a4_2, b4_2, a4_1, b4_1, len_enc, enc_ok, enc_unnil, part_enc, take5, set5, setE, retD_ret, retD_normal, leav_nil, leav_func, finD, tbG_e, tb64p_e, zzK, seval]
          refine ⟨l, s0p, i1, 3, rfl, (by simp [a2_1, b2_1, a3_2, b3_2, a3_1, b3_1, a4_3, b4_3, a4_2, b4_2, a4_1, b4_1]), ok0.at_, ?_⟩
          simp only [panD]
          show leav DTab.none [] _ _ _
          simp only [leav_nil, finD]
          exact mid_pan (s' := s0p) (by simp [a2_1, b2_1, a3_2, b3_2, a3_1, b3_1, a4_3, b4_3, a4_2, b4_2, a4_1, b4_1]) k
        · have q2p : (fs + 1 > 32) = False := eq_false c3p
          have q1p : (gs > 16) = False := eq_false (by omega)
          replace k := wpR_no (q := ((declG l (psF l f) s0p).bind fun d s => progL l (psF l f) j (fs + 1) (gs) ((Nd.mk nk nt ns nm nl).addKid d) s)) (by simp only [cond_true, cond_false, Bool.or_eq_false_iff, decide_eq_false_iff_not]; omega) k
          rw [wpR_bind] at k
          simp (config := {maxSteps := 1000000}) only [w2, q1p, q2p, len_encs, tbD_e, hp, a2_1, b2_1, a3_2, b3_2, a3_1, b3_1, a4_3, b4_3, a4_2, b4_2, a4_1, b4_1, len_enc, enc_ok, enc_unnil, part_enc, take5, set5, setE, retD_ret, retD_normal, leav_nil, leav_func, finD, tbG_e, tb64p_e, zzK, seval]
          refine ⟨l, s0p, i1, rfl, hl, (by simp [a2_1, b2_1, a3_2, b3_2, a3_1, b3_1, a4_3, b4_3, a4_2, b4_2, a4_1, b4_1]), ok0, wpR_mono' (fun y s1p e1 k ok1 => ?_) (fun a e k s' => ?_) k⟩
          case refine_2 =>
            intro σ hσ
            simp only [panD]
            rw [hσ]
            show leav DTab.none [] _ _ _
            simp only [leav_nil, finD]
            exact mid_pan (s' := s') (by simp [a2_1, b2_1, a3_2, b3_2, a3_1, b3_1, a4_3, b4_3, a4_2, b4_2, a4_1, b4_1]) k
          simp (config := {maxSteps := 1000000}) only [encN, len_encs, tbD_e, hp, a2_1, b2_1, a3_2, b3_2, a3_1, b3_1, a4_3, b4_3, a4_2, b4_2, a4_1, b4_1, len_enc, enc_ok, enc_unnil, part_enc, take5, set5, setE, retD_ret, retD_normal, leav_nil, leav_func, finD, tbG_e, tb64p_e, zzK, seval]
          refine ⟨by omega, hQ (j, .mk nk nt ns nm (nl ++ [y]), i4, s1p, fs + 1, gs) _ _ ⟨ok1, k, fun _ => ⟨a4_1, a4_2, a4_3⟩, by simp only; omega, by simp only; omega, by simp only; omega, by simp only; omega, by simp only [Nd.kidsOf, List.length_append, List.length_cons, List.length_nil]; omega⟩ (by simp only [tb64p_e, zzK, seval]) ?_ (by simp only; omega)⟩
          have hne : nl ++ [y] ≠ [] := by simp
          simp only [withK, Nd.kidsOf, encW, List.length_append, List.length_cons, List.length_nil, hne, if_false, ← encs_snoc, ownD_pos (show nl.length + (0 + 1) ≠ 0 by omega)]
          rw [show nl.length + 2 + 1 = nl.length + (0 + 1) + 2 by omega]
          exact AHeap.sub_X (by repeat' first | with_reducible exact AHeap.subX_refl | with_reducible exact AHeap.subX_emp | refine AHeap.subX_l (by simp [a2_1, b2_1, a3_2, b3_2, a3_1, b3_1, a4_3, b4_3, a4_2, b4_2, a4_1, b4_1]) ?_ | refine AHeap.subX_r (by simp [a2_1, b2_1, a3_2, b3_2, a3_1, b3_1, a4_3, b4_3, a4_2, b4_2, a4_1, b4_1]) ?_)
end
end Go.Proofs.YtpagdhbmbnoddaaGreatDoor.Zz
/- Contracts: a text's program. -/
namespace Go.Proofs.YtpagdhbmbnoddaaGreatDoor.Zz
noncomputable section
set_option linter.unusedVariables false
set_option linter.unusedSimpArgs false
set_option maxRecDepth 20000
def p17p : Plan := ⟨⟨[], [], [], [((5, 5), [(.t 4), (.t 4)]), ((5, 6), [(.t 4)])], [((5, 2), (.t 4)), ((5, 4), (.t 4))], []⟩, [(5, [0, 1, 2, 3, 4, 5, 6, 7])], [], false⟩
/-- cupel/parse.Program$1 (0 parameters, 3 captured) -/
-- REST of 17: results [], 22 slots
def s17p : Stm :=
 .seq (.ops [⟨.mov (.t 3), (some 7), none, true⟩,
 ⟨.eql .iface true (.t 7) (.c .nilif), (some 8), none, true⟩])
 (.cond (.t 8)
 (.seq (.ops [⟨.mov (.t 3), (some 10), none, true⟩,
 ⟨.typeAssert 48 true .undef (.t 10), (some 11), none, false⟩,
 ⟨.mov (.t 11), (some 9), none, true⟩,
 ⟨.extract (.t 9) 0, (some 12), none, true⟩,
 ⟨.extract (.t 9) 1, (some 13), none, true⟩,
 ⟨.alloc [(.int .i64 0), (.int .i64 0)], (some 4), none, false⟩,
 ⟨.store 2 (.t 4) (.t 12), none, none, false⟩,
 ⟨.mov (.t 13), (some 5), none, true⟩])
 (.seq (.seq (.ops [⟨.mov (.t 5), (some 14), none, true⟩,
 ⟨.un .not (.t 14), (some 15), none, true⟩])
 (.cond (.t 15)
 (.ops [⟨.mov (.t 3), (some 16), none, true⟩,
 ⟨.panic (.t 16), none, none, false⟩])
 (.skip)))
 (.opsD [⟨.build [(.int .i64 0), (.int .i64 0), (.str []), (.int .i64 0), .nilsl] [], (some 17), none, true⟩,
 ⟨.fieldAddr 0 (.t 4), (some 18), none, true⟩,
 ⟨.loadOf none (.t 18) (.t 4), (some 19), none, false⟩,
 ⟨.fieldAddr 1 (.t 4), (some 20), none, true⟩,
 ⟨.loadOf none (.t 20) (.t 4), (some 21), none, false⟩,
 ⟨.storeNe 5 (.t 0) (.t 17) [(.t 4), (.t 4)], none, none, false⟩,
 ⟨.storeNe 1 (.t 1) (.t 19) [(.t 4)], none, none, false⟩,
 ⟨.store 1 (.t 2) (.t 21), none, none, false⟩])))
 (.skip))

theorem rc17 : recOf Tryz.prog 17 p17p = some (s17p, [], 22, 6, 3) := by kernel_rfl
/-- What is done at a program's end. -/
def dRec : DTab := fun k args u h F => k = 17 ∧ ∃ (a b c : Nat) (v : List D) (p q : D), args = [.ptr a 1 0, .ptr b 1 0, .ptr c 1 0] ∧ v.length = 5 ∧ h.f a = some (.cells v) ∧ h.f b = some (.cells [p]) ∧ h.f c = some (.cells [q]) ∧ ¬ b = a ∧ ¬ a = b ∧ ¬ c = a ∧ ¬ a = c ∧ ¬ c = b ∧ ¬ b = c ∧
  ((u = none ∧ F none h) ∨ ∃ x e, u = some (stopD x e) ∧ F none (((h.set a (.cells [.int .i64 0, .int .i64 0, .str [], .int .i64 0, .nilsl])).set b (.cells [.int .i64 x])).set c (.cells [.int .i64 e])))
theorem dRec_ok (κ : Kap) (w : World) : dRec.okY Tryz.prog κ w := by
  rintro k args u h F ⟨rfl, a, b, c, v, p, q, rfl, hv, ha, hb, hc, n1, n2, n3, n4, n5, n6, hF⟩ κ' w' le
  refine DCallsAt.of_recOf ((Tab.zero_ok Tryz.prog).toY κ' w') rc17 (by simp) ?_
  rcases hF with ⟨rfl, hF⟩ | ⟨x, e, rfl, hF⟩
  · simp (config := {maxSteps := 1000000}) only [s17p, recD, retO_normal, zzK, seval]
    exact ⟨h, AHeap.sub_refl h, hF⟩
  · simp (config := {maxSteps := 1000000}) only [s17p, recD, stopD, i_assert, retO_normal, zzK, seval]
    intro i hi
    have ma : ¬ a = i := fun e => by subst e; rw [ha] at hi; cases hi
    have mb : ¬ b = i := fun e => by subst e; rw [hb] at hi; cases hi
    have mc : ¬ c = i := fun e => by subst e; rw [hc] at hi; cases hi
    match v, hv with
    | [v0, v1, v2, v3, v4], _ =>
    have ma' : (!a == i) = true := by simp [ma]
    have mb' : (!b == i) = true := by simp [mb]
    simp (config := {maxSteps := 1000000}) only [ma, mb, mc, ma', mb', ha, hb, hc, n1, n2, n3, n4, n5, n6, retO_normal, zzK, seval]
    refine ⟨_, fun j o hj => ?_, hF⟩
    simp only [AHeap.set_f] at hj ⊢
    by_cases e : j = i
    · subst e
      have m1 : ¬ j = a := fun e => ma e.symm
      have m2 : ¬ j = b := fun e => mb e.symm
      have m3 : ¬ j = c := fun e => mc e.symm
      simp [m1, m2, m3, hi] at hj
    · simpa [e] using hj
end
end Go.Proofs.YtpagdhbmbnoddaaGreatDoor.Zz
/- Contracts: a text's program. -/
namespace Go.Proofs.YtpagdhbmbnoddaaGreatDoor.Zz
noncomputable section
set_option linter.unusedVariables false
set_option linter.unusedSimpArgs false
set_option maxRecDepth 20000
def p7p : Plan := ⟨⟨[], [(6, 1)], [], [((3, 3), [(.t 3), (.t 4)]), ((3, 4), [(.t 4)])], [], []⟩, [(3, [0, 1, 2, 3, 4, 5])], [], false⟩
/-- cupel/parse.Program (1 parameters, 0 captured) -/
def s7p : Stm :=
 .seq (.ops [⟨.alloc [(.int .i64 0), (.int .i64 0), (.str []), (.int .i64 0), .nilsl], (some 2), none, false⟩,
 ⟨.alloc [(.int .i64 0)], (some 3), none, false⟩,
 ⟨.alloc [(.int .i64 0)], (some 4), none, false⟩])
 (.seq (.ops [⟨.mov (.t 0), (some 8), none, true⟩,
 ⟨.qcall (.f 16) [(.t 8)], (some 9), none, false⟩,
 ⟨.mov (.t 9), (some 7), none, true⟩,
 ⟨.extract (.t 7) 0, (some 10), none, true⟩,
 ⟨.extract (.t 7) 1, (some 11), none, true⟩,
 ⟨.extract (.t 7) 2, (some 12), none, true⟩,
 ⟨.mov (.t 10), (some 5), none, true⟩,
 ⟨.store 1 (.t 3) (.t 11), none, none, false⟩,
 ⟨.store 1 (.t 4) (.t 12), none, none, false⟩])
 (.seq (.seq (.ops [⟨.load none (.t 4), (some 13), none, false⟩,
 ⟨.bin .neq (.t 13) (.c (.int .i64 0)), (some 14), none, true⟩])
 (.cond (.t 14)
 (.seq (.opsD [⟨.build [(.int .i64 0), (.int .i64 0), (.str []), (.int .i64 0), .nilsl] [], (some 15), none, true⟩,
 ⟨.load none (.t 3), (some 16), none, false⟩,
 ⟨.load none (.t 4), (some 17), none, false⟩,
 ⟨.storeNe 5 (.t 2) (.t 15) [(.t 3), (.t 4)], none, none, false⟩,
 ⟨.storeNe 1 (.t 3) (.t 16) [(.t 4)], none, none, false⟩,
 ⟨.store 1 (.t 4) (.t 17), none, none, false⟩])
 (.ret))
 (.skip)))
 (.seq (.seq (.ops [⟨.mkFunc (.func 17) [] [(.t 2), (.t 3), (.t 4)], (some 18), none, true⟩])
 (.defer (.t 18) []))
 (.seq (.ops [⟨.mov (.t 5), (some 19), none, true⟩,
 ⟨.build [.nilsl, (.int .i64 0), (.int .i64 0), (.int .i64 0)] [(0, 1, (.t 19))], (some 20), none, true⟩,
 ⟨.box (.t 20), (some 21), none, false⟩,
 ⟨.mov (.t 21), (some 6), none, true⟩])
 (.seq (.ops [⟨.mov (.t 6), (some 22), none, true⟩,
 ⟨.call (.f 18) [(.t 22)], (some 23), none, false⟩,
 ⟨.store 5 (.t 2) (.t 23), none, none, false⟩,
 ⟨.store 1 (.t 3) (.c (.int .i64 0)), none, none, false⟩,
 ⟨.store 1 (.t 4) (.c (.int .i64 0)), none, none, false⟩])
 (.ret))))))
theorem st7p : stmOf Tryz.prog 7 p7p = some (s7p, [.cell 2 (some 5), .cell 3 none, .cell 4 none], 24) := by kernel_rfl

def q16p : List D → Option D
  | [.str s] => some (.tuple [.sl (encT (tokens s).1), .int .i64 (tokens s).2.1, .int .i64 (tokens s).2.2])
  | _ => none
theorem q16p_ok (args : List D) (d : D) (h : q16p args = some d) : PCall Tryz.prog 16 args d := by
  unfold q16p at h
  split at h
  · cases h; exact tokens_c _
  · cases h
def cProg (f : Nat) (args : List D) (h : AHeap) (K E : D → AHeap → Prop) : Prop := ∃ (l : List Tok) (s : PS) (id : Nat), args = [.ptr id 1 0] ∧ WOk l ∧ cP (progG l (psF l f)) encN l s id h K E
theorem cProg_mono (f : Nat) (args : List D) (h : AHeap) (K E K' E' : D → AHeap → Prop) (hk : ∀ d h, K d h → K' d h) (he : ∀ d h, E d h → E' d h) (c : cProg f args h K E) : cProg f args h K' E' := by
  obtain ⟨l, s, id, a, b, c⟩ := c
  exact ⟨l, s, id, a, b, cP_mono hk he c⟩
theorem cProg_ok (f : Nat) (args : List D) (h : AHeap) (K E : D → AHeap → Prop) (c : cProg f args h K E) : ACalls Tryz.prog 18 args h (AOut.to K E) := by
  obtain ⟨l, s, id, rfl, hl, c⟩ := c
  exact cP_ok (fun ok K0 E0 hw => program_c f l hl s id ok K0 E0 hw) c
def tb16p : Tab := Tab.zero.addQ 16 q16p
theorem tb16p_q (g : FuncId) (args : List D) : tb16p.q g args = if g = 16 then q16p args else Tab.zero.q g args := rfl
theorem tb16p_a : tb16p.a = Tab.zero.a := rfl
theorem tb16p_c : tb16p.c = Tab.zero.c := rfl
theorem tb16p_ok : tb16p.ok Tryz.prog := Tab.addQ_ok (Tab.zero_ok _) q16p_ok
theorem tb16p_e : type_of% (And.intro @tb16p_q (And.intro @tb16p_a @tb16p_c)) := (And.intro @tb16p_q (And.intro @tb16p_a @tb16p_c))

def tbM (f : Nat) : Tab := tb16p.addE 18 (cProg f) (cProg_mono f)
theorem tbM_ok (f : Nat) : (tbM f).ok Tryz.prog := Tab.addE_ok tb16p_ok fun args h K E c => cProg_ok f args h K E c
theorem tbM_q {f : Nat} : (tbM f).q = tb16p.q := rfl
theorem tbM_a {f : Nat} : (tbM f).a = tb16p.a := rfl
theorem tbM_c {f : Nat} (g : FuncId) (args : List D) (h : AHeap) (K E : D → AHeap → Prop) : (tbM f).c g args h K E = if g = 18 then cProg f args h K E else tb16p.c g args h K E := rfl
theorem tbM_e : type_of% (And.intro (And.intro @tbM_q (And.intro @tbM_a @tbM_c)) @tb16p_e) := (And.intro (And.intro @tbM_q (And.intro @tbM_a @tbM_c)) @tb16p_e)
theorem parse_c (f : Nat) (x : List UInt8) (n : Nd) (a e : Int) (hp : parseF f x = some (n, a, e)) : PCall Tryz.prog 7 [.str x] (.tuple [.agg n.enc, .int .i64 a, .int .i64 e]) := by
  refine ACalls.of_stmD (tbM_ok f) (dc := dRec) dRec_ok (by kernel_rfl) st7p (by simp) ?_
  rw [vc_todo]
  have hq : q16p [.str x] = some (.tuple [.sl (encT (tokens x).1), .int .i64 (tokens x).2.1, .int .i64 (tokens x).2.2]) := rfl
  unfold parseF at hp
  simp (config := {maxSteps := 1000000}) only [s7p, hq, tbM_e, tb64p_e, tb16p_e, zzK, seval]
  intro i1  i2 a2_1 b2_1 i3 a3_2 b3_2 a3_1 b3_1
  have hW := tokens_ok x
  generalize tokens x = T at *
  obtain ⟨l, a0, e0⟩ := T
  simp only at hp hW
  by_cases c : e0 = 0
  · subst c
    rw [if_pos rfl] at hp
    obtain ⟨hl, hl0⟩ := hW rfl
    simp (config := {maxSteps := 1000000}) only [a2_1, b2_1, a3_2, b3_2, a3_1, b3_1, tbM_e, tb64p_e, tb16p_e, zzK, seval]
    intro i4 a4_3 b4_3 a4_2 b4_2 _ _ _ _ a4_1 b4_1
    have ok : PSok l ⟨0, 0, 0⟩ := ⟨(show (0 : Int) ≤ 0 by omega), (show (0 : Int) < l.length by omega), (show (0 : Int) ≤ 0 by omega), (show (0 : Int) ≤ 2000 by omega), (show (0 : Int) ≤ 0 by omega), (show (0 : Int) ≤ 40 by omega)⟩
    refine ⟨l, ⟨0, 0, 0⟩, i4, rfl, hl, by simp [pObj], ok, ?_⟩
    cases hr : progG l (psF l f) ⟨0, 0, 0⟩ with
    | out => rw [hr] at hp; cases hp
    | ok m s' =>
      rw [hr] at hp
      cases hp
      rw [wpR_ok]
      intro ok'
      obtain ⟨nk, nt, ns, nm, nl⟩ := n
      simp (config := {maxSteps := 1000000}) only [a2_1, b2_1, a3_2, b3_2, a3_1, b3_1, a4_3, b4_3, a4_2, b4_2, a4_1, b4_1, encN, enc_mk, retD_ret, leav_func, leav_nil, tbM_e, tb64p_e, tb16p_e, zzK, seval]
      refine ⟨rfl, i1, i2, i3, [.int .i64 nk, .int .i64 nt, .str ns, .int .i64 nm, .sl (Nd.encs nl)], .int .i64 0, .int .i64 0, rfl, rfl, (by simp [a2_1, b2_1, a3_2, b3_2, a3_1, b3_1, a4_3, b4_3, a4_2, b4_2, a4_1, b4_1]), (by simp [a2_1, b2_1, a3_2, b3_2, a3_1, b3_1, a4_3, b4_3, a4_2, b4_2, a4_1, b4_1]), (by simp [a2_1, b2_1, a3_2, b3_2, a3_1, b3_1, a4_3, b4_3, a4_2, b4_2, a4_1, b4_1]), a2_1, b2_1, a3_1, b3_1, a3_2, b3_2, .inl ⟨rfl, ?_⟩⟩
      simp (config := {maxSteps := 1000000}) only [a2_1, b2_1, a3_2, b3_2, a3_1, b3_1, a4_3, b4_3, a4_2, b4_2, a4_1, b4_1, finD, zzK, seval]
      exact .inl ⟨_, AHeap.sub_refl _⟩
    | fail a' e' =>
      rw [hr] at hp
      cases hp
      rw [wpR_fail]
      intro s'
      simp (config := {maxSteps := 1000000}) only [panD, leav_func, leav_nil, List.nil_append, List.append_nil]
      refine ⟨rfl, i1, i2, i3, [.int .i64 0, .int .i64 0, .str [], .int .i64 0, .nilsl], .int .i64 a0, .int .i64 0, rfl, rfl, (by simp [a2_1, b2_1, a3_2, b3_2, a3_1, b3_1, a4_3, b4_3, a4_2, b4_2, a4_1, b4_1]), (by simp [a2_1, b2_1, a3_2, b3_2, a3_1, b3_1, a4_3, b4_3, a4_2, b4_2, a4_1, b4_1]), (by simp [a2_1, b2_1, a3_2, b3_2, a3_1, b3_1, a4_3, b4_3, a4_2, b4_2, a4_1, b4_1]), a2_1, b2_1, a3_1, b3_1, a3_2, b3_2, .inr ⟨a, e, rfl, ?_⟩⟩
      simp (config := {maxSteps := 1000000}) only [leav_nil, finD, enc_mk, encs_nil, a2_1, b2_1, a3_2, b3_2, a3_1, b3_1, a4_3, b4_3, a4_2, b4_2, a4_1, b4_1, zzK, seval]
      exact .inr ⟨_, AHeap.sub_refl _⟩
  · rw [if_neg c] at hp
    have g : (e0 != 0) = true := by simpa using c
    cases hp
    simp (config := {maxSteps := 1000000}) only [a2_1, b2_1, a3_2, b3_2, a3_1, b3_1, g, retD_ret, leav_nil, finD, tbM_e, tb64p_e, tb16p_e, zzK, seval]
    have m12 : (!i1 == i2) = true := by simp [b2_1]
    have m13 : (!i1 == i3) = true := by simp [b3_1]
    have m23 : (!i2 == i3) = true := by simp [b3_2]
    refine ⟨by simp [m12, m13], ?_⟩
    simp (config := {maxSteps := 1000000}) only [a2_1, b2_1, a3_2, b3_2, a3_1, b3_1, g, m12, m13, m23, retD_ret, leav_nil, finD, tbM_e, tb64p_e, tb16p_e, zzK, seval]
    exact .inr ⟨_, AHeap.sub_refl _, by rw [enc_mk, encs_nil]⟩
/-- A text's program, with so much fuel. -/
def qParse (f : Nat) : List D → Option D
  | [.str x] => (parseF f x).map fun y => .tuple [.agg y.1.enc, .int .i64 y.2.1, .int .i64 y.2.2]
  | _ => none
theorem qParse_ok (f : Nat) (args : List D) (d : D) (h : qParse f args = some d) : PCall Tryz.prog 7 args d := by
  unfold qParse at h
  split at h
  · simp only [Option.map_eq_some_iff] at h
    obtain ⟨⟨n, a, e⟩, h1, rfl⟩ := h
    exact parse_c f _ n a e h1
  · cases h
end
end Go.Proofs.YtpagdhbmbnoddaaGreatDoor.Zz
/- Contracts: trees that are gone over. -/
namespace Go.Proofs.YtpagdhbmbnoddaaGreatDoor.Zz
noncomputable section
set_option linter.unusedVariables false
set_option linter.unusedSimpArgs false
set_option maxRecDepth 20000
def p46r : Plan := ⟨⟨[], [], [], [], [], []⟩, [], [], false⟩
/-- cupel/ast.All (1 parameters, 0 captured) -/
def s46r : Stm :=
 .seq (.ops [⟨.box (.t 0), (some 1), none, false⟩,
 ⟨.mov (.c .nilfunc), (some 2), none, true⟩])
 (.seq (.ops [⟨.mkFunc (.func 42) [] [(.t 1)], (some 3), none, true⟩,
 ⟨.mov (.t 3), (some 2), none, true⟩])
 (.ret))
theorem st46r : stmOf Tryz.prog 22 p46r = some (s46r, [.tmp 2], 4) := by kernel_rfl

def p76r : Plan := ⟨⟨[], [(1, 2)], [], [], [], []⟩, [], [], false⟩
/-- cupel/ast.All$1 (1 parameters, 1 captured) -/
def s76r : Stm :=
 .seq (.ops [⟨.alloc [(.int .i64 0)], (some 3), none, false⟩,
 ⟨.store 1 (.t 3) (.c (.int .i64 0)), none, none, false⟩])
 (.ops [⟨.load (some 5) (.t 1), (some 4), none, false⟩,
 ⟨.mov (.t 0), (some 5), none, true⟩,
 ⟨.call (.f 43) [(.t 4), (.t 3), (.t 5)], (some 6), none, false⟩])
theorem st76r : stmOf Tryz.prog 42 p76r = some (s76r, [], 7) := by kernel_rfl

def p77r : Plan := ⟨⟨[], [(7, 3), (1, 5)], [], [], [], []⟩, [(1, [0, 1, 2, 3, 4, 5, 6])], [], false⟩
/-- cupel/ast.walk (3 parameters, 0 captured) -/
def s77r : Stm :=
 .seq (.ops [⟨.box (.t 0), (some 3), none, false⟩,
 ⟨.mov (.c (.bool false)), (some 6), none, true⟩])
 (.seq (.seq (.opsD [⟨.mov (.t 2), (some 9), none, true⟩,
 ⟨.mov (.t 1), (some 10), none, true⟩,
 ⟨.nilCheck (.t 10), (some 11), none, true⟩,
 ⟨.load none (.t 11), (some 12), none, false⟩,
 ⟨.load (some 5) (.t 3), (some 13), none, false⟩,
 ⟨.call (.t 9) [(.t 12), (.t 13)], (some 14), none, false⟩,
 ⟨.un .not (.t 14), (some 15), none, true⟩])
 (.cond (.t 15)
 (.seq (.ops [⟨.mov (.c (.bool false)), (some 6), none, true⟩])
 (.ret))
 (.skip)))
 (.seq (.seq (.ops [⟨.fieldAddr 4 (.t 3), (some 16), none, true⟩,
 ⟨.load none (.t 16), (some 17), none, false⟩,
 ⟨.len .sl (.t 17), (some 18), none, false⟩,
 ⟨.mov (.c (.int .i64 0)), (some 19), none, true⟩])
 (.block 0 (.loop (.seq (.ops [⟨.bin .lss (.t 19) (.t 18), (some 20), none, true⟩])
 (.seq (.cond (.t 20)
 (.skip)
 (.exit 0))
 (.seq (.block 1 (.seq (.ops [⟨.indexAddrS 5 (.t 17) (.t 19), (some 21), none, false⟩,
 ⟨.load (some 5) (.t 21), (some 22), none, false⟩,
 ⟨.alloc [(.int .i64 0), (.int .i64 0), (.str []), (.int .i64 0), .nilsl], (some 8), none, false⟩,
 ⟨.store 5 (.t 8) (.t 22), none, none, false⟩])
 (.seq (.ops [⟨.mov (.t 1), (some 23), none, true⟩,
 ⟨.nilCheck (.t 23), (some 24), none, true⟩,
 ⟨.load none (.t 24), (some 25), none, false⟩,
 ⟨.bin .add (.t 25) (.c (.int .i64 1)), (some 26), none, true⟩,
 ⟨.nilCheck (.t 23), (some 27), none, true⟩,
 ⟨.store 1 (.t 27) (.t 26), none, none, false⟩])
 (.seq (.ops [⟨.load (some 5) (.t 8), (some 28), none, false⟩,
 ⟨.mov (.t 1), (some 29), none, true⟩,
 ⟨.mov (.t 2), (some 30), none, true⟩,
 ⟨.call (.f 43) [(.t 28), (.t 29), (.t 30)], (some 31), none, false⟩,
 ⟨.un .not (.t 31), (some 32), none, true⟩])
 (.cond (.t 32)
 (.seq (.ops [⟨.mov (.c (.bool false)), (some 6), none, true⟩])
 (.ret))
 (.skip))))))
 (.ops [⟨.bin .add (.t 19) (.c (.int .i64 1)), (some 33), none, true⟩,
 ⟨.mov (.t 33), (some 19), none, true⟩])))))))
 (.seq (.ops [⟨.mov (.c (.bool true)), (some 6), none, true⟩])
 (.ret))))
theorem st77r : stmOf Tryz.prog 43 p77r = some (s77r, [.tmp 6], 34) := by kernel_rfl

/-- What rounds do with nodes, one behind the other; the last one's place. -/
def YI (Y : List D → AHeap → (D → AHeap → Prop) → Prop) : List Nd → Int → AHeap → (Bool → AHeap → Int → Prop) → Prop
  | [], a, h, K => K true h (a - 1)
  | x :: l, a, h, K => Y [.int .i64 a, .agg x.enc] h (fun d h' => ∃ b, d = .bool b ∧ (b = true → YI Y l (a + 1) h' K) ∧ (b = false → K false h' a))
theorem YI_mono {Y Y' : List D → AHeap → (D → AHeap → Prop) → Prop} (hY : ∀ args h (K K' : D → AHeap → Prop), (∀ d h, K d h → K' d h) → Y args h K → Y' args h K') : ∀ (l : List Nd) (a : Int) (h : AHeap) (K K' : Bool → AHeap → Int → Prop), (∀ b h a, K b h a → K' b h a) → YI Y l a h K → YI Y' l a h K'
  | [], a, h, K, K', hk, x => hk _ _ _ x
  | x :: l, a, h, K, K', hk, y => hY _ _ _ _ (fun d h' ⟨b, e1, e2, e3⟩ => ⟨b, e1, fun e => YI_mono hY l _ _ K K' hk (e2 e), fun e => hk _ _ _ (e3 e)⟩) y
theorem YI_monoK {Y : List D → AHeap → (D → AHeap → Prop) → Prop} (hY : YMono Y) (l : List Nd) (a : Int) (h : AHeap) (K K' : Bool → AHeap → Int → Prop) (hk : ∀ b h a, K b h a → K' b h a) (x : YI Y l a h K) : YI Y l a h K' :=
  YI_mono (Y := Y) (Y' := Y) (fun args h K K' hk x => hY args h K K' hk x) l a h K K' hk x
theorem YI_app {Y : List D → AHeap → (D → AHeap → Prop) → Prop} (hY : YMono Y) : ∀ (l r : List Nd) (a : Int) (h : AHeap) (K : Bool → AHeap → Int → Prop), YI Y (l ++ r) a h K → YI Y l a h (fun b h' a' => (b = true → YI Y r (a' + 1) h' K) ∧ (b = false → K false h' a'))
  | [], r, a, h, K, x => by
    show (true = true → YI Y r (a - 1 + 1) h K) ∧ (true = false → K false h (a - 1))
    rw [show a - 1 + 1 = a by omega]
    exact And.intro (fun _ => x) (fun e => Bool.noConfusion e)
  | y :: l, r, a, h, K, x => by
    refine hY _ _ _ _ (fun d h' k => ?_) x
    obtain ⟨b, e1, e2, e3⟩ := k
    refine ⟨b, e1, fun e => YI_app hY l r _ _ K (e2 e), fun e => ?_⟩
    exact And.intro (fun e' => Bool.noConfusion e') (fun _ => e3 e)
/-- The last one's place, told. -/
theorem YI_idx {Y : List D → AHeap → (D → AHeap → Prop) → Prop} (hY : YMono Y) : ∀ (l : List Nd) (a : Int) (h : AHeap) (K : Bool → AHeap → Int → Prop), YI Y l a h K → YI Y l a h (fun b h' a' => K b h' a' ∧ (b = true → a' = a + l.length - 1))
  | [], a, h, K, x => by
    show K true h (a - 1) ∧ (true = true → a - 1 = a + (([] : List Nd).length : Int) - 1)
    exact ⟨x, fun _ => by simp⟩
  | y :: l, a, h, K, x => by
    refine hY _ _ _ _ (fun d h' k => ?_) x
    obtain ⟨b, e1, e2, e3⟩ := k
    refine ⟨b, e1, fun e => YI_monoK hY l _ _ _ _ (fun b h a k => ⟨k.1, fun e => ?_⟩) (YI_idx hY l _ _ K (e2 e)), fun e => ⟨e3 e, fun e => by cases e⟩⟩
    rw [k.2 e]
    simp only [List.length_cons]
    omega
/-- Node by node. -/
theorem YI_ind {Y : List D → AHeap → (D → AHeap → Prop) → Prop} (hY : YMono Y) {K : Bool → AHeap → Int → Prop} (I : Nat → AHeap → Prop) (L : List Nd)
    (step : ∀ (i : Nat) (x : Nd) (hh : AHeap), L[i]? = some x → I i hh → Y [.int .i64 (i : Int), .agg x.enc] hh (fun d h' => ∃ b, d = .bool b ∧ (b = true → I (i + 1) h') ∧ (b = false → K false h' i)))
    (fin : ∀ hh, I L.length hh → K true hh ((L.length : Int) - 1)) : ∀ (l : List Nd) (i : Nat) (h : AHeap), L.drop i = l → i ≤ L.length → I i h → YI Y l (i : Int) h K
  | [], i, h, e, hi, hI => by
    have : i = L.length := by have := congrArg List.length e; simp at this; omega
    subst this
    exact fin h hI
  | x :: l, i, h, e, hi, hI => by
    have hx : L[i]? = some x := by
      have := congrArg (fun l : List Nd => l[0]?) e
      simpa [List.getElem?_drop] using this
    have hlt : i < L.length := (List.getElem?_eq_some_iff.1 hx).1
    have hd : L.drop (i + 1) = l := by
      rw [List.drop_eq_getElem_cons hlt] at e
      exact (List.cons.inj e).2
    refine hY _ _ _ _ (fun d h' k => ?_) (step i x h hx hI)
    obtain ⟨b, e1, e2, e3⟩ := k
    refine ⟨b, e1, fun e => ?_, e3⟩
    have := YI_ind hY I L step fin l (i + 1) h' hd (by omega) (e2 e)
    rw [show ((i + 1 : Nat) : Int) = (i : Int) + 1 by omega] at this
    exact this
/-- A walk through a tree. -/
def cW (l : Nat) (Y : List D → AHeap → (D → AHeap → Prop) → Prop) (f : Nat) (args : List D) (h : AHeap) (K : D → AHeap → Prop) : Prop :=
  ∃ (n : Nd) (a : Int) (id : Nat) (h0 : AHeap), args = [.agg (Nd.enc n), .ptr id 1 0, .func (.yield l) [] []] ∧ h = h0.set id (.cells [.int .i64 a]) ∧ h0.f id = none ∧ n.cnt < f ∧ 0 ≤ a ∧ a + n.cnt ≤ 1000000000 ∧
    YI Y (listF n) a h0 (fun b h' a' => h'.f id = none → K (.bool b) (h'.set id (.cells [.int .i64 a'])))
theorem cW_mono {l : Nat} {Y : List D → AHeap → (D → AHeap → Prop) → Prop} {f : Nat} (hY : YMono Y) (args : List D) (h : AHeap) (K K' : D → AHeap → Prop) (hk : ∀ d h, K d h → K' d h) (x : cW l Y f args h K) : cW l Y f args h K' := by
  obtain ⟨n, a, id, h0, e1, e2, e3, e4, e5, e6, y⟩ := x
  exact ⟨n, a, id, h0, e1, e2, e3, e4, e5, e6, YI_monoK hY _ _ _ _ _ (fun b h a k e => hk _ _ (k e)) y⟩
def tbW (l : Nat) (Y : List D → AHeap → (D → AHeap → Prop) → Prop) (hY : YMono Y) (f : Nat) : Tab := (Tab.zero.addY l Y hY).addW 43 (frameC (cW l Y f)) (frameC_mono (cW_mono hY))
theorem tbW_q (l : Nat) (Y) (hY : YMono Y) (f : Nat) (g : FuncId) (xs : List D) : (tbW l Y hY f).q g xs = none := rfl
theorem tbW_c (l : Nat) (Y) (hY : YMono Y) (f : Nat) (g : FuncId) (xs : List D) (h : AHeap) (K E : D → AHeap → Prop) : (tbW l Y hY f).c g xs h K E = if g = 43 then frameC (cW l Y f) xs h K else False := rfl
theorem tbW_y (l : Nat) (Y) (hY : YMono Y) (f : Nat) (xs : List D) (h : AHeap) (K : D → AHeap → Prop) : (tbW l Y hY f).y l xs h K = Y xs h K := if_pos rfl
theorem walk_step (κ : Kap) (w : World) (l : Nat) (Y : List D → AHeap → (D → AHeap → Prop) → Prop) (hY : YMono Y) (f : Nat) (hT : (tbW l Y hY f).okY Tryz.prog κ w) (args : List D) (h : AHeap) (K : D → AHeap → Prop) (x : cW l Y (f + 1) args h K) :
    ACallsAt Tryz.prog κ w 43 args h fun o h' => ∃ d, o = .ret d ∧ K d h' := by
  obtain ⟨n, a, id, h0, rfl, rfl, h0i, hn, ha, hb, y⟩ := x
  refine ACallsAt.of_U hT st77r (by simp) ?_
  have hTq := tbW_q l Y hY f
  have hTc := tbW_c l Y hY f
  have hTy := tbW_y l Y hY f
  generalize tbW l Y hY f = TT at hTq hTc hTy ⊢
  obtain ⟨k, t, s, m, kids⟩ := n
  rw [enc_mk]
  have hcn : ∀ x ∈ kids, x.cnt < f := fun x hx => by have := cnt_kid (k := k) (t := t) (s := s) (n := m) hx; omega
  rw [cnt_mk] at hb
  rw [listF_mk] at y
  have hln := cnts_len kids
  simp (config := {maxSteps := 1000000}) only [s77r, zzK, seval]
  intro i3 e3 e3' f3
  simp (config := {maxSteps := 1000000}) only [e3, e3', f3, h0i, hTq, zzK, seval]
  rw [i_yield]
  refine ⟨h0, [(i3, .cells [.int .i64 k, .int .i64 t, .str s, .int .i64 m, .sl (Nd.encs kids)]), (id, .cells [.int .i64 a])], rfl, ?_, ?_⟩
  · intro p hp
    simp only [List.mem_cons, List.not_mem_nil, or_false] at hp
    rcases hp with rfl | rfl
    · exact f3
    · exact h0i
  rw [hTy]
  simp (config := {maxSteps := 1000000}) only [zzK, seval]
  rw [← enc_mk]
  refine hY _ _ _ _ (fun d h1 kk => ?_) y
  obtain ⟨b, rfl, kt, kf⟩ := kk
  intro hL1 hL2
  simp only [AHeap.puts, List.foldr_cons, List.foldr_nil]
  cases b with
  | false =>
    have kf := kf rfl hL2
    simp (config := {maxSteps := 1000000}) only [e3, e3', retU_ret, Bool.not_false, zzK, seval]
    exact ⟨_, AHeap.sub_X (AHeap.subX_r (.inr (by simp [hL1, e3])) AHeap.subX_refl), kf⟩
  | true =>
    have kt := kt rfl
    simp (config := {maxSteps := 1000000}) only [e3, e3', Bool.not_true, enc_mk, zzK, seval]
    intro _
    refine run_loop (X := Nat × AHeap × Int) (fun z => [(1, .ptr id 1 0), (2, .func (.yield l) [] []), (17, .sl (Nd.encs kids)), (18, .int .i64 kids.length), (19, .int .i64 z.1)]) (fun z => (z.2.1.set id (.cells [.int .i64 z.2.2])).set i3 (.cells [.int .i64 k, .int .i64 t, .str s, .int .i64 m, .sl (Nd.encs kids)])) (fun z => kids.length - z.1)
      (fun z => z.1 ≤ kids.length ∧ z.2.1.f id = none ∧ z.2.1.f i3 = none ∧ 0 ≤ z.2.2 ∧ z.2.2 + 1 + Nd.cnts (kids.drop z.1) ≤ 1000000000 ∧ YI Y (listFs (kids.drop z.1)) (z.2.2 + 1) z.2.1 (fun b h' a' => h'.f id = none → K (.bool b) (h'.set id (.cells [.int .i64 a'])))) (0, h1, a) ⟨Nat.zero_le _, hL2, hL1, ha, by simp only [List.drop_zero]; omega, kt⟩ (by simp only [len_encs, zzK, seval]) (AHeap.sub_refl _) ?_
    rintro ⟨i, hh, c⟩ Q ⟨j1, j2, j3, j4, j5, j6⟩ hQ
    simp only at j1 j2 j3 j4 j5 j6 hQ ⊢
    by_cases ci : i < kids.length
    · have g : ((i : Int) < (kids.length : Int)) = True := eq_true (by omega)
      obtain ⟨x, hx⟩ : ∃ x, kids[i]? = some x := ⟨_, List.getElem?_eq_getElem ci⟩
      have hxm : x ∈ kids := List.mem_of_getElem? hx
      have hac : ∀ (K : D → AHeap → Prop) (h : AHeap), askE 5 K h (Nd.encs kids) (i : Int) = K (.eptr x.enc 0) h := fun K h => askE_encs hx
      have hpx := part_enc x
      have dr : kids.drop i = x :: kids.drop (i + 1) := by
        rw [List.drop_eq_getElem_cons ci]
        congr 1
        exact (List.getElem?_eq_some_iff.1 hx).2
      rw [dr, cnts_cons] at j5
      rw [dr, listFs_cons] at j6
      have wc : IntKind.i64.wrap (c + 1) = c + 1 := wrap_i64 (by omega) (by omega)
      have wi : IntKind.i64.wrap ((i : Int) + 1) = ((i + 1 : Nat) : Int) := wrap_succ (by omega)
      have hxc := hcn x hxm
      have hx5 := len_enc x
      have hxo := enc_ok x
      have hlx := listF_len x
      obtain ⟨xk, xt, xs, xm, xl⟩ := x
      rw [enc_mk] at *
      simp (config := {maxSteps := 1000000}) only [g, hac, hpx, e3, e3', wc, wi, hTq, zzK, seval]
      intro i8 n1 n2 n3 n4 n5
      simp (config := {maxSteps := 1000000}) only [g, hac, hpx, e3, e3', wc, wi, hTq, n1, n2, n3, n4, n5, j2, j3, hTc, zzK, seval]
      refine ⟨hh.set id (.cells [.int .i64 (c + 1)]), [(i8, .cells [.int .i64 xk, .int .i64 xt, .str xs, .int .i64 xm, .sl (Nd.encs xl)]), (i3, .cells [.int .i64 k, .int .i64 t, .str s, .int .i64 m, .sl (Nd.encs kids)])], ?_, ?_, ?_⟩
      · refine AHeap.ext fun q => ?_
        simp only [AHeap.puts, List.foldr_cons, List.foldr_nil, AHeap.set_f]
        by_cases q1r : q = i8
        · subst q1r; simp [n1, n2, n3, n4]
        · by_cases q2r : q = i3
          · subst q2r; simp [q1r, e3]
          · by_cases q3r : q = id
            · simp [q3r, n1, n2, n3, n4, e3, e3']
            · simp [q1r, q2r, q3r]
      · intro p hp
        simp only [List.mem_cons, List.not_mem_nil, or_false] at hp
        rcases hp with rfl | rfl
        · simp [n1, n2, n3, n4, n5]
        · simp [e3, j3]
      refine ⟨.mk xk xt xs xm xl, c + 1, id, hh, by rw [enc_mk], rfl, j2, hxc, by omega, by omega, YI_monoK hY _ _ _ _ _ (fun b hn cn kk hid hL => ?_) (YI_idx hY _ _ _ _ (YI_app hY _ _ _ _ _ j6))⟩
      obtain ⟨⟨kt, kf⟩, ki⟩ := kk
      have hL1 := hL _ List.mem_cons_self
      have hL2 := hL _ (List.mem_cons_of_mem _ List.mem_cons_self)
      simp only [AHeap.set_f] at hL1 hL2
      rw [if_neg (by first | exact n1 | exact n2 | exact n3 | exact n4)] at hL1
      rw [if_neg e3] at hL2
      simp only [AHeap.puts, List.foldr_cons, List.foldr_nil]
      cases b with
      | false =>
        have kf := kf rfl hid
        simp (config := {maxSteps := 1000000}) only [e3, e3', retU_ret, Bool.not_false, zzK, seval]
        exact ⟨_, AHeap.sub_X (AHeap.subX_r (.inr (by simp [hL1, n1, n2, n3, n4, e3, hL2])) (AHeap.subX_r (.inr (by simp [hL2, e3])) AHeap.subX_refl)), kf⟩
      | true =>
        have kt := kt rfl
        have ki := ki rfl
        simp (config := {maxSteps := 1000000}) only [e3, e3', wi, Bool.not_true, zzK, seval]
        refine hQ (i + 1, hn, cn) _ _ ⟨by omega, hid, hL2, show 0 ≤ cn by omega, by simp only; rw [hlx] at ki; omega, kt⟩ (by simp only [zzK, seval]) ?_ (by simp only; omega)
        exact AHeap.sub_X (AHeap.subX_r (.inr (by simp [hL1, n1, n2, n3, n4, hL2])) (AHeap.subX_l (by simp) (AHeap.subX_l (by simp [e3, e3']) (AHeap.subX_r (.inl (by simp)) (AHeap.subX_r (.inl (by simp)) AHeap.subX_refl)))))
    · have e0 : i = kids.length := by omega
      subst e0
      have g : ((kids.length : Int) < (kids.length : Int)) = False := eq_false (by omega)
      rw [List.drop_length, listFs_nil] at j6
      have kk : K (.bool true) (hh.set id (.cells [.int .i64 c])) := by
        have : YI Y [] (c + 1) hh (fun b h' a' => h'.f id = none → K (.bool b) (h'.set id (.cells [.int .i64 a']))) = ((hh.f id = none → K (.bool true) (hh.set id (.cells [.int .i64 (c + 1 - 1)])))) := rfl
        rw [this, show c + 1 - 1 = c by omega] at j6
        exact j6 j2
      simp (config := {maxSteps := 1000000}) only [g, retU_ret, zzK, seval]
      exact ⟨_, AHeap.sub_X (AHeap.subX_r (.inr (by simp [j3, e3])) AHeap.subX_refl), kk⟩

theorem walk_ok (l : Nat) (Y : List D → AHeap → (D → AHeap → Prop) → Prop) (hY : YMono Y) : ∀ (f : Nat) (κ : Kap) (w : World), (∀ args h K, Y args h K → ∀ κ' w', Le κ w κ' w' → YCalls Tryz.prog κ' w' l args h K) → ∀ args h K, cW l Y f args h K → ACallsAt Tryz.prog κ w 43 args h fun o h' => ∃ d, o = .ret d ∧ K d h'
  | 0, κ, w, hs, args, h, K, x => by
    obtain ⟨n, a, id, h0, e1, e2, e3, e4, _⟩ := x
    omega
  | f + 1, κ, w, hs, args, h, K, x => by
    refine walk_step κ w l Y hY f ?_ args h K x
    refine Tab.addW_okY (Tab.addY_ok ((Tab.zero_ok _).toY κ w) hs) fun args h K x κ' w' le => ?_
    exact frameC_ok (fun args h K x => walk_ok l Y hY f κ' w' (fun args h K y κ'' w'' le' => hs args h K y κ'' w'' (le.trans le')) args h K x) args h K x
/-- A range over all nodes of a tree. -/
def rAll (l : Nat) (Y : List D → AHeap → (D → AHeap → Prop) → Prop) (args : List D) (h : AHeap) (K : D → AHeap → Prop) : Prop :=
  ∃ (n : Nd) (id : Nat), args = [.func (.yield l) [] [], .ptr id 1 0] ∧ h.f id = some (.cells (Nd.enc n)) ∧ n.cnt ≤ 100000000 ∧ YI Y (listF n) 0 h (fun _ h' _ => K (.tuple []) h')
theorem rAll_mono (l : Nat) (Y Y' : List D → AHeap → (D → AHeap → Prop) → Prop) (args : List D) (h : AHeap) (K K' : D → AHeap → Prop) (hY : ∀ args h (K K' : D → AHeap → Prop), (∀ d h, K d h → K' d h) → Y args h K → Y' args h K') (hk : ∀ d h, K d h → K' d h) (x : rAll l Y args h K) : rAll l Y' args h K' := by
  obtain ⟨n, id, e1, e2, e3, y⟩ := x
  exact ⟨n, id, e1, e2, e3, YI_mono hY _ _ _ _ _ (fun _ _ _ k => hk _ _ k) y⟩
def tbV (l : Nat) (Y : List D → AHeap → (D → AHeap → Prop) → Prop) (hY : YMono Y) (f : Nat) : Tab := (Tab.zero.addY l Y hY).addW 43 (cW l Y f) (cW_mono hY)
theorem tbV_q (l : Nat) (Y) (hY : YMono Y) (f : Nat) (g : FuncId) (xs : List D) : (tbV l Y hY f).q g xs = none := rfl
theorem tbV_c (l : Nat) (Y) (hY : YMono Y) (f : Nat) (g : FuncId) (xs : List D) (h : AHeap) (K E : D → AHeap → Prop) : (tbV l Y hY f).c g xs h K E = if g = 43 then cW l Y f xs h K else False := rfl
theorem rAll_ok (l : Nat) (Y : List D → AHeap → (D → AHeap → Prop) → Prop) (args : List D) (h : AHeap) (K : D → AHeap → Prop) (κ : Kap) (w : World) (hY : YMono Y) (hs : ∀ args h K, Y args h K → ∀ κ' w', Le κ w κ' w' → YCalls Tryz.prog κ' w' l args h K) (x : rAll l Y args h K) :
    ACallsAt Tryz.prog κ w 42 args h (AOut.to K fun _ _ => False) := by
  obtain ⟨n, id, rfl, hid, hn, y⟩ := x
  have hT : (tbV l Y hY 200000000).okY Tryz.prog κ w := Tab.addW_okY (Tab.addY_ok ((Tab.zero_ok _).toY κ w) hs) fun args h K x κ' w' le =>
    walk_ok l Y hY _ κ' w' (fun args h K y κ'' w'' le' => hs args h K y κ'' w'' (le.trans le')) args h K x
  have key : ACallsAt Tryz.prog κ w 42 [.func (.yield l) [] [], .ptr id 1 0] h fun o h' => ∃ d, o = .ret d ∧ K d h' := by
    refine ACallsAt.of_U hT st76r (by simp) ?_
    have hTq := tbV_q l Y hY 200000000
    have hTc := tbV_c l Y hY 200000000
    generalize tbV l Y hY 200000000 = TT at hTq hTc ⊢
    obtain ⟨k, t, s, m, kids⟩ := n
    have hid' := hid
    rw [enc_mk] at hid'
    simp (config := {maxSteps := 1000000}) only [s76r, zzK, seval]
    intro i3 f3
    have ne : ¬ i3 = id := fun e => by subst e; rw [hid] at f3; cases f3
    have ne' : ¬ id = i3 := fun e => ne e.symm
    simp (config := {maxSteps := 1000000}) only [f3, ne, ne', hid', hTc, zzK, seval]
    refine ⟨.mk k t s m kids, 0, i3, h, by rw [enc_mk], rfl, f3, by omega, by omega, by omega, YI_monoK hY _ _ _ _ _ (fun b h' a' kk hi3 => ?_) y⟩
    simp (config := {maxSteps := 1000000}) only [retU_normal, zzK, seval]
    exact ⟨h', AHeap.sub_X (AHeap.subX_r (.inr hi3) AHeap.subX_refl), kk⟩
  exact ⟨key.1, fun vs hi hr => (key.2 vs hi hr).mono fun e w' ⟨o, h', κ', ⟨d, a1, a2⟩, b⟩ => ⟨o, h', κ', by subst a1; exact a2, b⟩⟩
def tb46r : Tab := Tab.zero.addS 22 s46r [.tmp 2] 4
theorem tb46r_q : tb46r.q = Tab.zero.q := rfl
theorem tb46r_a : tb46r.a = Tab.zero.a := rfl
theorem tb46r_c (g : FuncId) (args : List D) (h : AHeap) (K E : D → AHeap → Prop) : tb46r.c g args h K E = if g = 22 then (args.length ≤ 4 ∧ vc Tab.zero s46r (todo Tab.zero (retS [.tmp 2] K) (panS E) []) (panS E) (argFr args) h) else Tab.zero.c g args h K E := rfl
theorem tb46r_ok : tb46r.ok Tryz.prog := Tab.addS_ok (Tab.zero_ok _) st46r
theorem tb46r_e : type_of% (And.intro @tb46r_q (And.intro @tb46r_a @tb46r_c)) := (And.intro @tb46r_q (And.intro @tb46r_a @tb46r_c))

def tbR : Tab := tb46r.addR 42 rAll rAll_mono
theorem tbR_q : tbR.q = tb46r.q := rfl
theorem tbR_a : tbR.a = tb46r.a := rfl
theorem tbR_c : tbR.c = tb46r.c := rfl
theorem tbR_e : type_of% (And.intro (And.intro @tbR_q (And.intro @tbR_a @tbR_c)) @tb46r_e) := (And.intro (And.intro @tbR_q (And.intro @tbR_a @tbR_c)) @tb46r_e)
theorem tbR_r (g : FuncId) (l : Nat) (Y : List D → AHeap → (D → AHeap → Prop) → Prop) (xs : List D) (h : AHeap) (K : D → AHeap → Prop) : tbR.r g l Y xs h K = if g = 42 then rAll l Y xs h K else tb46r.r g l Y xs h K := rfl
theorem tbR_ok : tbR.ok Tryz.prog := Tab.addR_ok tb46r_ok fun l Y args h K κ w hY hs x => rAll_ok l Y args h K κ w hY hs x
theorem params2 (σ : Fr) (p q : Nat) (d e : D) : σ.params [p, q] [d, e] = (({ σ with defs := [] } : Fr).put (some p) d).put (some q) e := rfl
end
end Go.Proofs.YtpagdhbmbnoddaaGreatDoor.Zz
