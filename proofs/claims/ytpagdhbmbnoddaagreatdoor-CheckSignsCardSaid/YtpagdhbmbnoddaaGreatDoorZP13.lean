/- Contracts: branches. -/
import Derived.Test.YtpagdhbmbnoddaaGreatDoorZP10
set_option linter.unnecessarySimpa false
set_option linter.unusedVariables false
set_option linter.unusedSimpArgs false
set_option maxRecDepth 20000
namespace Go.Proofs.YtpagdhbmbnoddaaGreatDoor.Zz
noncomputable section
def p104p : Plan := ⟨⟨[(3, 4)], [(1, 1), (2, 2), (3, 1), (3, 3), (5, 1), (6, 1), (7, 2), (8, 1), (4, 3)], [], [((4, 3), [(.t 3)])], [((4, 1), (.t 3))], []⟩, [(4, [0, 1, 2, 3, 4, 5, 6, 7])], [], false⟩
def s104p : Stm :=
 .seq (.ops [⟨.alloc [(.int .i64 0), (.int .i64 0), (.str []), (.int .i64 0), .nilsl], some 2, none, false⟩])
 (.seq (.seq (.ops [⟨.mov (.t 0), some 5, none, true⟩,
 ⟨.call (.f 86) [(.t 5)], some 6, none, false⟩])
 (.defer (.t 6) []))
 (.seq (.ops [⟨.mov (.t 0), some 7, none, true⟩,
 ⟨.build [(.int .i64 0), (.int .i64 0), (.str []), (.int .i64 0), .nilsl] [(0, 1, (.c (.int .i64 9)))], some 8, none, true⟩,
 ⟨.call (.f 32) [(.t 7), (.t 8)], some 9, none, false⟩,
 ⟨.alloc [(.int .i64 0), (.int .i64 0), (.str []), (.int .i64 0), .nilsl], some 3, none, false⟩,
 ⟨.store 5 (.t 3) (.t 9), none, none, false⟩])
 (.seq (.ops [⟨.mov (.t 0), some 10, none, true⟩,
 ⟨.call (.f 105) [(.t 10), (.c (.int .i64 0))], some 11, none, false⟩,
 ⟨.mov (.t 0), some 12, none, true⟩,
 ⟨.call (.f 65) [(.t 12)], some 13, none, false⟩,
 ⟨.buildSlice 5 [(.int .i64 0), (.int .i64 0), (.str []), (.int .i64 0), .nilsl] 2 [(0, (.t 11)), (1, (.t 13))] true, some 14, none, false⟩,
 ⟨.fieldAddr 4 (.t 3), some 15, none, true⟩,
 ⟨.store 1 (.t 15) (.t 14), none, none, false⟩])
 (.seq (.block 0 (.seq (.ops [⟨.mov (.t 0), some 24, none, true⟩,
 ⟨.call (.f 60) [(.t 24), (.c (.str [101, 108, 115, 101]))], some 25, none, false⟩,
 ⟨.un .not (.t 25), some 26, none, true⟩,
 ⟨.mov (.t 26), some 23, none, true⟩])
 (.cond (.t 23)
 (.skip)
 (.seq (.ops [⟨.mov (.t 0), some 28, none, true⟩,
 ⟨.call (.f 60) [(.t 28), (.c (.str [105, 102]))], some 29, none, false⟩,
 ⟨.mov (.t 29), some 27, none, true⟩])
 (.cond (.t 27)
 (.seq (.ops [⟨.mov (.t 0), some 30, none, true⟩,
 ⟨.build [(.int .i64 0), (.int .i64 0), (.str []), (.int .i64 0), .nilsl] [(0, 1, (.c (.int .i64 6)))], some 31, none, true⟩,
 ⟨.call (.f 32) [(.t 30), (.t 31)], some 32, none, false⟩,
 ⟨.alloc [(.int .i64 0), (.int .i64 0), (.str []), (.int .i64 0), .nilsl], some 4, none, false⟩,
 ⟨.store 5 (.t 4) (.t 32), none, none, false⟩])
 (.seq (.ops [⟨.mov (.t 0), some 33, none, true⟩,
 ⟨.call (.f 104) [(.t 33)], some 34, none, false⟩,
 ⟨.buildSlice 5 [(.int .i64 0), (.int .i64 0), (.str []), (.int .i64 0), .nilsl] 1 [(0, (.t 34))] false, some 35, none, true⟩,
 ⟨.fieldAddr 4 (.t 4), some 36, none, true⟩,
 ⟨.store 1 (.t 36) (.t 35), none, none, false⟩])
 (.ops [⟨.fieldAddr 4 (.t 3), some 37, none, true⟩,
 ⟨.load none (.t 37), some 38, none, false⟩,
 ⟨.load (some 5) (.t 4), some 39, none, false⟩,
 ⟨.buildSlice 5 [(.int .i64 0), (.int .i64 0), (.str []), (.int .i64 0), .nilsl] 1 [(0, (.t 39))] false, some 40, none, true⟩,
 ⟨.append 5 64 false (.t 38) (.t 40), some 41, none, false⟩,
 ⟨.fieldAddr 4 (.t 3), some 42, none, true⟩,
 ⟨.store 1 (.t 42) (.t 41), none, none, false⟩])))
 (.opsD 16 [⟨.fieldAddr 4 (.t 3), some 16, none, true⟩,
 ⟨.loadOf none (.t 16) (.t 3), some 17, none, false⟩,
 ⟨.mov (.t 0), some 18, none, true⟩,
 ⟨.callNe (.f 65) [(.t 18)] [(.t 3)], some 19, none, false⟩,
 ⟨.buildSlice 5 [(.int .i64 0), (.int .i64 0), (.str []), (.int .i64 0), .nilsl] 1 [(0, (.t 19))] false, some 20, none, true⟩,
 ⟨.append 5 64 false (.t 17) (.t 20), some 21, none, false⟩,
 ⟨.fieldAddr 4 (.t 3), some 22, none, true⟩,
 ⟨.store 1 (.t 22) (.t 21), none, none, false⟩]))))))
 (.seq (.ops [⟨.load (some 5) (.t 3), some 43, none, false⟩,
 ⟨.store 5 (.t 2) (.t 43), none, none, false⟩])
 (.ret))))))
theorem st104p : stmOf Tryz.prog 104 p104p = some (s104p, [.cell 2 (some 5)], 44) := by kernel_rfl
set_option maxHeartbeats 1000000 in
theorem branch_c (G : List Tok → PRec) (hG : ∀ l, PKeep (G l)) (hT : (tbG G).ok Tryz.prog) (l : List Tok) (hl : WOk l) (s : PS) (i1 : Nat) (ok : PSok l s) (K0 : Nd → PS → Prop) (E0 : Int → Int → Prop) (hw : wpR (branchG l (G l) s) (fun x s' => PSok l s' → K0 x s') E0) : ACalls Tryz.prog 104 [.ptr i1 1 0] (AHeap.emp.set i1 (pObj l s)) (retP encN l i1 K0 E0) := by
  refine ACalls.of_stmD hT (dc := dIn) dIn_ok (by kernel_rfl) st104p (by simp) ?_
  rw [vc_todo]
  have hp := fun (h : AHeap) (j : Nat) (B C : AObj) => push_id (id := i1) h j B C
  have w1 : IntKind.i64.wrap (s.deep + 1) = s.deep + 1 := wrap_i64 (by have := ok.d0; omega) (by have := ok.d1; omega)
  unfold branchG pDeep pIn at hw
  rw [wpR_bind] at hw
  simp (maxSteps := 1000000) only [s104p, s86p, pObj, tbG_e, tb64p_e, zzK, seval]
  intro i2 a2_1 b2_1 i3 a3_2 b3_2 a3_1 b3_1
  by_cases c : s.deep + 1 > 40
  · have g : (s.deep + 1 > 40) = True := eq_true c
    rw [if_pos c] at hw
    simp (maxSteps := 1000000) only [g, w1, hp, a2_1, b2_1, a3_2, b3_2, a3_1, b3_1, len_enc, enc_ok, enc_unnil, part_enc, take5, set5, setE, retD_ret, retD_normal, leav_nil, leav_func, finD, tbG_e, tb64p_e, zzK, seval]
    refine ⟨l, { s with deep := s.deep + 1 }, i1, 3, rfl, by simp [pObj, a2_1, b2_1, a3_2, b3_2, a3_1, b3_1], ok.at_, ?_⟩
    simp only [panS, panD, true_and]
    refine ⟨rfl, ?_⟩
    show leav dIn [] (some (stopD _ 3)) _ _
    simp only [leav_nil, finD]
    exact mid_pan (s' := { s with deep := s.deep + 1 }) (by simp [pObj, a2_1, b2_1, a3_2, b3_2, a3_1, b3_1]) hw
  · have g : (s.deep + 1 > 40) = False := eq_false c
    rw [if_neg c, wpR_ok] at hw
    have okd := deepIn ok c
    simp only [pOff, wpR_bind, wpR_ok] at hw
    simp (maxSteps := 1000000) only [g, w1, hp, a2_1, b2_1, a3_2, b3_2, a3_1, b3_1, len_enc, enc_ok, enc_unnil, part_enc, take5, set5, setE, retD_ret, retD_normal, leav_nil, leav_func, finD, tbG_e, tb64p_e, zzK, seval]
    generalize hsd : ({ s with deep := s.deep + 1 } : PS) = sd at *
    have hde : sd.deep = s.deep + 1 := by rw [← hsd]
    refine .inl ⟨l, sd, i1, .mk 9 0 [] 0 [], by simp only [enc_mk, encs_nil], hl.lo, by rw [← hsd]; simp [pObj, a2_1, b2_1, a3_2, b3_2, a3_1, b3_1], okd, wpR_mono' (fun n s1p e1 k ok1 => ?_) (fun a e k s' => ?_) hw⟩
    case refine_2 =>
      simp only [panD, leav_func, leav_nil, List.nil_append, List.append_nil]
      refine ⟨rfl, i3, i1, l, s', rfl, by simp [a2_1, b2_1, a3_2, b3_2, a3_1, b3_1], by simp [a2_1, b2_1, a3_2, b3_2, a3_1, b3_1], ?_⟩
      simp only [finD]
      exact mid_pan (s' := { s' with deep := IntKind.i64.wrap (s'.deep - 1) }) (by simp [a2_1, b2_1, a3_2, b3_2, a3_1, b3_1]) k
    have d1 : s1p.deep = s.deep + 1 := (keeps_pNode _ _ e1).trans hde
    obtain ⟨nk, nt, ns, nm, nl⟩ := n
    simp (maxSteps := 1000000) only [encN, enc_mk, hp, a2_1, b2_1, a3_2, b3_2, a3_1, b3_1, len_enc, enc_ok, enc_unnil, part_enc, take5, set5, setE, retD_ret, retD_normal, leav_nil, leav_func, finD, tbG_e, tb64p_e, zzK, seval]
    intro i4 a4_3 b4_3 a4_2 b4_2 a4_1 b4_1
    refine ⟨l, s1p, i1, 0, rfl, hl, (by simp [a2_1, b2_1, a3_2, b3_2, a3_1, b3_1, a4_3, b4_3, a4_2, b4_2, a4_1, b4_1]), ok1, wpR_mono' (fun x s2p e2 k ok2 => ?_) (fun a e k s' => ?_) k⟩
    case refine_2 =>
      simp only [panD, leav_func, leav_nil, List.nil_append, List.append_nil]
      refine ⟨rfl, i3, i1, l, s', rfl, by simp [a2_1, b2_1, a3_2, b3_2, a3_1, b3_1, a4_3, b4_3, a4_2, b4_2, a4_1, b4_1], by simp [a2_1, b2_1, a3_2, b3_2, a3_1, b3_1, a4_3, b4_3, a4_2, b4_2, a4_1, b4_1], ?_⟩
      simp only [finD]
      exact mid_pan (s' := { s' with deep := IntKind.i64.wrap (s'.deep - 1) }) (by simp [a2_1, b2_1, a3_2, b3_2, a3_1, b3_1, a4_3, b4_3, a4_2, b4_2, a4_1, b4_1]) k
    have d2 : s2p.deep = s.deep + 1 := ((hG l).expr _ _ _ _ e2).trans d1
    simp (maxSteps := 1000000) only [encN, hp, a2_1, b2_1, a3_2, b3_2, a3_1, b3_1, a4_3, b4_3, a4_2, b4_2, a4_1, b4_1, len_enc, enc_ok, enc_unnil, part_enc, take5, set5, setE, retD_ret, retD_normal, leav_nil, leav_func, finD, tbG_e, tb64p_e, zzK, seval]
    refine ⟨l, s2p, i1, rfl, hl, (by simp [a2_1, b2_1, a3_2, b3_2, a3_1, b3_1, a4_3, b4_3, a4_2, b4_2, a4_1, b4_1]), ok2, wpR_mono' (fun y s3p e3 k ok3 => ?_) (fun a e k s' => ?_) k⟩
    case refine_2 =>
      simp only [panD, leav_func, leav_nil, List.nil_append, List.append_nil]
      refine ⟨rfl, i3, i1, l, s', rfl, by simp [a2_1, b2_1, a3_2, b3_2, a3_1, b3_1, a4_3, b4_3, a4_2, b4_2, a4_1, b4_1], by simp [a2_1, b2_1, a3_2, b3_2, a3_1, b3_1, a4_3, b4_3, a4_2, b4_2, a4_1, b4_1], ?_⟩
      simp only [finD]
      exact mid_pan (s' := { s' with deep := IntKind.i64.wrap (s'.deep - 1) }) (by simp [a2_1, b2_1, a3_2, b3_2, a3_1, b3_1, a4_3, b4_3, a4_2, b4_2, a4_1, b4_1]) k
    have d3 : s3p.deep = s.deep + 1 := ((hG l).block _ _ _ e3).trans d2
    simp (maxSteps := 1000000) only [encN, hp, a2_1, b2_1, a3_2, b3_2, a3_1, b3_1, a4_3, b4_3, a4_2, b4_2, a4_1, b4_1, len_enc, enc_ok, enc_unnil, part_enc, take5, set5, setE, retD_ret, retD_normal, leav_nil, leav_func, finD, tbG_e, tb64p_e, zzK, seval]
    intro i5 a5_4 b5_4 a5_3 b5_3 a5_2 b5_2 a5_1 b5_1
    simp (maxSteps := 1000000) only [hp, a2_1, b2_1, a3_2, b3_2, a3_1, b3_1, a4_3, b4_3, a4_2, b4_2, a4_1, b4_1, a5_4, b5_4, a5_3, b5_3, a5_2, b5_2, a5_1, b5_1, len_enc, enc_ok, enc_unnil, part_enc, take5, set5, setE, retD_ret, retD_normal, leav_nil, leav_func, finD, tbG_e, tb64p_e, zzK, seval]
    have fin : ∀ (n : Nd) (s' : PS), PSok l s' → s'.deep = s.deep + 1 → (PSok l { s' with deep := s'.deep - 1 } → K0 n { s' with deep := s'.deep - 1 }) → K0 n { s' with deep := s'.deep - 1 } ∧ IntKind.i64.wrap (s'.deep - 1) = s'.deep - 1 := fun n s' o d h => ⟨h (deepOk ok o d).1, (deepOk ok o d).2⟩
    refine ⟨l, s3p, i1, wElse, rfl, hl.lo, (by simp [a2_1, b2_1, a3_2, b3_2, a3_1, b3_1, a4_3, b4_3, a4_2, b4_2, a4_1, b4_1, a5_4, b5_4, a5_3, b5_3, a5_2, b5_2, a5_1, b5_1]), ok3, wpR_mono' (fun b s4p e4 k ok4 => ?_) (fun a e k s' => ?_) k⟩
    case refine_2 =>
      simp only [panD, leav_func, leav_nil, List.nil_append, List.append_nil]
      refine ⟨rfl, i3, i1, l, s', rfl, by simp [a2_1, b2_1, a3_2, b3_2, a3_1, b3_1, a4_3, b4_3, a4_2, b4_2, a4_1, b4_1, a5_4, b5_4, a5_3, b5_3, a5_2, b5_2, a5_1, b5_1], by simp [a2_1, b2_1, a3_2, b3_2, a3_1, b3_1, a4_3, b4_3, a4_2, b4_2, a4_1, b4_1, a5_4, b5_4, a5_3, b5_3, a5_2, b5_2, a5_1, b5_1], ?_⟩
      simp only [finD]
      exact mid_pan (s' := { s' with deep := IntKind.i64.wrap (s'.deep - 1) }) (by simp [a2_1, b2_1, a3_2, b3_2, a3_1, b3_1, a4_3, b4_3, a4_2, b4_2, a4_1, b4_1, a5_4, b5_4, a5_3, b5_3, a5_2, b5_2, a5_1, b5_1]) k
    have d4 : s4p.deep = s.deep + 1 := (keeps_pTake _ _ e4).trans d3
    cases b with
    | false =>
      rw [Bool.not_false, cond_true, wpR_ok] at k
      obtain ⟨k, wd⟩ := fin _ s4p ok4 d4 k
      simp (maxSteps := 1000000) only [Bool.not_false, hp, a2_1, b2_1, a3_2, b3_2, a3_1, b3_1, a4_3, b4_3, a4_2, b4_2, a4_1, b4_1, a5_4, b5_4, a5_3, b5_3, a5_2, b5_2, a5_1, b5_1, len_enc, enc_ok, enc_unnil, part_enc, take5, set5, setE, retD_ret, retD_normal, leav_nil, leav_func, finD, tbG_e, tb64p_e, zzK, seval]
      refine ⟨rfl, i3, i1, l, s4p, rfl, (by simp [a2_1, b2_1, a3_2, b3_2, a3_1, b3_1, a4_3, b4_3, a4_2, b4_2, a4_1, b4_1, a5_4, b5_4, a5_3, b5_3, a5_2, b5_2, a5_1, b5_1]), (by simp [a2_1, b2_1, a3_2, b3_2, a3_1, b3_1, a4_3, b4_3, a4_2, b4_2, a4_1, b4_1, a5_4, b5_4, a5_3, b5_3, a5_2, b5_2, a5_1, b5_1]), ?_⟩
      rw [wd]
      simp (maxSteps := 1000000) only [hp, a2_1, b2_1, a3_2, b3_2, a3_1, b3_1, a4_3, b4_3, a4_2, b4_2, a4_1, b4_1, a5_4, b5_4, a5_3, b5_3, a5_2, b5_2, a5_1, b5_1, len_enc, enc_ok, enc_unnil, part_enc, take5, set5, setE, retD_ret, retD_normal, leav_nil, leav_func, finD, tbG_e, tb64p_e, zzK, seval]
      exact mid_ret' (x := .mk nk nt ns nm [x, y]) (s' := { s4p with deep := s4p.deep - 1 }) (by rw [encN, enc_mk, encs_cons, encs_cons, encs_nil]) (by simp [a2_1, b2_1, a3_2, b3_2, a3_1, b3_1, a4_3, b4_3, a4_2, b4_2, a4_1, b4_1, a5_4, b5_4, a5_3, b5_3, a5_2, b5_2, a5_1, b5_1]) k
    | true =>
      rw [Bool.not_true, cond_false, wpR_bind] at k
      simp (maxSteps := 1000000) only [Bool.not_true, hp, a2_1, b2_1, a3_2, b3_2, a3_1, b3_1, a4_3, b4_3, a4_2, b4_2, a4_1, b4_1, a5_4, b5_4, a5_3, b5_3, a5_2, b5_2, a5_1, b5_1, len_enc, enc_ok, enc_unnil, part_enc, take5, set5, setE, retD_ret, retD_normal, leav_nil, leav_func, finD, tbG_e, tb64p_e, zzK, seval]
      refine ⟨l, s4p, i1, wIf, rfl, hl.lo, (by simp [a2_1, b2_1, a3_2, b3_2, a3_1, b3_1, a4_3, b4_3, a4_2, b4_2, a4_1, b4_1, a5_4, b5_4, a5_3, b5_3, a5_2, b5_2, a5_1, b5_1]), ok4, wpR_mono' (fun b s5p e5 k ok5 => ?_) (fun a e k s' => ?_) k⟩
      case refine_2 =>
        simp only [panD, leav_func, leav_nil, List.nil_append, List.append_nil]
        refine ⟨rfl, i3, i1, l, s', rfl, by simp [a2_1, b2_1, a3_2, b3_2, a3_1, b3_1, a4_3, b4_3, a4_2, b4_2, a4_1, b4_1, a5_4, b5_4, a5_3, b5_3, a5_2, b5_2, a5_1, b5_1], by simp [a2_1, b2_1, a3_2, b3_2, a3_1, b3_1, a4_3, b4_3, a4_2, b4_2, a4_1, b4_1, a5_4, b5_4, a5_3, b5_3, a5_2, b5_2, a5_1, b5_1], ?_⟩
        simp only [finD]
        exact mid_pan (s' := { s' with deep := IntKind.i64.wrap (s'.deep - 1) }) (by simp [a2_1, b2_1, a3_2, b3_2, a3_1, b3_1, a4_3, b4_3, a4_2, b4_2, a4_1, b4_1, a5_4, b5_4, a5_3, b5_3, a5_2, b5_2, a5_1, b5_1]) k
      have d5 : s5p.deep = s.deep + 1 := (keeps_pTake _ _ e5).trans d4
      cases b with
      | true =>
        rw [cond_true, wpR_bind] at k
        simp (maxSteps := 1000000) only [hp, a2_1, b2_1, a3_2, b3_2, a3_1, b3_1, a4_3, b4_3, a4_2, b4_2, a4_1, b4_1, a5_4, b5_4, a5_3, b5_3, a5_2, b5_2, a5_1, b5_1, len_enc, enc_ok, enc_unnil, part_enc, take5, set5, setE, retD_ret, retD_normal, leav_nil, leav_func, finD, tbG_e, tb64p_e, zzK, seval]
        refine .inl ⟨l, s5p, i1, .mk 6 0 [] 0 [], by simp only [enc_mk, encs_nil], hl.lo, (by simp [a2_1, b2_1, a3_2, b3_2, a3_1, b3_1, a4_3, b4_3, a4_2, b4_2, a4_1, b4_1, a5_4, b5_4, a5_3, b5_3, a5_2, b5_2, a5_1, b5_1]), ok5, wpR_mono' (fun m s6p e6 k ok6 => ?_) (fun a e k s' => ?_) k⟩
        case refine_2 =>
          simp only [panD, leav_func, leav_nil, List.nil_append, List.append_nil]
          refine ⟨rfl, i3, i1, l, s', rfl, by simp [a2_1, b2_1, a3_2, b3_2, a3_1, b3_1, a4_3, b4_3, a4_2, b4_2, a4_1, b4_1, a5_4, b5_4, a5_3, b5_3, a5_2, b5_2, a5_1, b5_1], by simp [a2_1, b2_1, a3_2, b3_2, a3_1, b3_1, a4_3, b4_3, a4_2, b4_2, a4_1, b4_1, a5_4, b5_4, a5_3, b5_3, a5_2, b5_2, a5_1, b5_1], ?_⟩
          simp only [finD]
          exact mid_pan (s' := { s' with deep := IntKind.i64.wrap (s'.deep - 1) }) (by simp [a2_1, b2_1, a3_2, b3_2, a3_1, b3_1, a4_3, b4_3, a4_2, b4_2, a4_1, b4_1, a5_4, b5_4, a5_3, b5_3, a5_2, b5_2, a5_1, b5_1]) k
        have d6 : s6p.deep = s.deep + 1 := (keeps_pNode _ _ e6).trans d5
        obtain ⟨mk, mt, ms, mm, ml⟩ := m
        rw [wpR_bind] at k
        simp (maxSteps := 1000000) only [encN, enc_mk, hp, a2_1, b2_1, a3_2, b3_2, a3_1, b3_1, a4_3, b4_3, a4_2, b4_2, a4_1, b4_1, a5_4, b5_4, a5_3, b5_3, a5_2, b5_2, a5_1, b5_1, len_enc, enc_ok, enc_unnil, part_enc, take5, set5, setE, retD_ret, retD_normal, leav_nil, leav_func, finD, tbG_e, tb64p_e, zzK, seval]
        intro i6 a6_4 b6_4 a6_5 b6_5 _ _ a6_3 b6_3 a6_2 b6_2 a6_1 b6_1
        refine ⟨l, s6p, i1, rfl, hl, (by simp [a2_1, b2_1, a3_2, b3_2, a3_1, b3_1, a4_3, b4_3, a4_2, b4_2, a4_1, b4_1, a5_4, b5_4, a5_3, b5_3, a5_2, b5_2, a5_1, b5_1, a6_5, b6_5, a6_4, b6_4, a6_3, b6_3, a6_2, b6_2, a6_1, b6_1]), ok6, wpR_mono' (fun z s7p e7 k ok7 => ?_) (fun a e k s' => ?_) k⟩
        case refine_2 =>
          simp only [panD, leav_func, leav_nil, List.nil_append, List.append_nil]
          refine ⟨rfl, i3, i1, l, s', rfl, by simp [a2_1, b2_1, a3_2, b3_2, a3_1, b3_1, a4_3, b4_3, a4_2, b4_2, a4_1, b4_1, a5_4, b5_4, a5_3, b5_3, a5_2, b5_2, a5_1, b5_1, a6_5, b6_5, a6_4, b6_4, a6_3, b6_3, a6_2, b6_2, a6_1, b6_1], by simp [a2_1, b2_1, a3_2, b3_2, a3_1, b3_1, a4_3, b4_3, a4_2, b4_2, a4_1, b4_1, a5_4, b5_4, a5_3, b5_3, a5_2, b5_2, a5_1, b5_1, a6_5, b6_5, a6_4, b6_4, a6_3, b6_3, a6_2, b6_2, a6_1, b6_1], ?_⟩
          simp only [finD]
          exact mid_pan (s' := { s' with deep := IntKind.i64.wrap (s'.deep - 1) }) (by simp [a2_1, b2_1, a3_2, b3_2, a3_1, b3_1, a4_3, b4_3, a4_2, b4_2, a4_1, b4_1, a5_4, b5_4, a5_3, b5_3, a5_2, b5_2, a5_1, b5_1, a6_5, b6_5, a6_4, b6_4, a6_3, b6_3, a6_2, b6_2, a6_1, b6_1]) k
        have d7 : s7p.deep = s.deep + 1 := ((hG l).branch _ _ _ e7).trans d6
        rw [wpR_ok] at k
        obtain ⟨k, wd⟩ := fin _ s7p ok7 d7 k
        simp (maxSteps := 1000000) only [encN, hp, a2_1, b2_1, a3_2, b3_2, a3_1, b3_1, a4_3, b4_3, a4_2, b4_2, a4_1, b4_1, a5_4, b5_4, a5_3, b5_3, a5_2, b5_2, a5_1, b5_1, a6_5, b6_5, a6_4, b6_4, a6_3, b6_3, a6_2, b6_2, a6_1, b6_1, len_enc, enc_ok, enc_unnil, part_enc, take5, set5, setE, retD_ret, retD_normal, leav_nil, leav_func, finD, tbG_e, tb64p_e, zzK, seval]
        refine ⟨rfl, i3, i1, l, s7p, rfl, (by simp [a2_1, b2_1, a3_2, b3_2, a3_1, b3_1, a4_3, b4_3, a4_2, b4_2, a4_1, b4_1, a5_4, b5_4, a5_3, b5_3, a5_2, b5_2, a5_1, b5_1, a6_5, b6_5, a6_4, b6_4, a6_3, b6_3, a6_2, b6_2, a6_1, b6_1]), (by simp [a2_1, b2_1, a3_2, b3_2, a3_1, b3_1, a4_3, b4_3, a4_2, b4_2, a4_1, b4_1, a5_4, b5_4, a5_3, b5_3, a5_2, b5_2, a5_1, b5_1, a6_5, b6_5, a6_4, b6_4, a6_3, b6_3, a6_2, b6_2, a6_1, b6_1]), ?_⟩
        rw [wd]
        simp (maxSteps := 1000000) only [hp, a2_1, b2_1, a3_2, b3_2, a3_1, b3_1, a4_3, b4_3, a4_2, b4_2, a4_1, b4_1, a5_4, b5_4, a5_3, b5_3, a5_2, b5_2, a5_1, b5_1, a6_5, b6_5, a6_4, b6_4, a6_3, b6_3, a6_2, b6_2, a6_1, b6_1, len_enc, enc_ok, enc_unnil, part_enc, take5, set5, setE, retD_ret, retD_normal, leav_nil, leav_func, finD, tbG_e, tb64p_e, zzK, seval]
        exact mid_ret' (x := .mk nk nt ns nm [x, y, .mk mk mt ms mm [z]]) (s' := { s7p with deep := s7p.deep - 1 }) (by simp only [encN, enc_mk, encs_cons, encs_nil]) (by simp [a2_1, b2_1, a3_2, b3_2, a3_1, b3_1, a4_3, b4_3, a4_2, b4_2, a4_1, b4_1, a5_4, b5_4, a5_3, b5_3, a5_2, b5_2, a5_1, b5_1, a6_5, b6_5, a6_4, b6_4, a6_3, b6_3, a6_2, b6_2, a6_1, b6_1]) k
      | false =>
        rw [cond_false, wpR_bind] at k
        simp (maxSteps := 1000000) only [hp, a2_1, b2_1, a3_2, b3_2, a3_1, b3_1, a4_3, b4_3, a4_2, b4_2, a4_1, b4_1, a5_4, b5_4, a5_3, b5_3, a5_2, b5_2, a5_1, b5_1, len_enc, enc_ok, enc_unnil, part_enc, take5, set5, setE, retD_ret, retD_normal, leav_nil, leav_func, finD, tbG_e, tb64p_e, zzK, seval]
        refine ⟨l, s5p, i1, rfl, hl, (by simp [a2_1, b2_1, a3_2, b3_2, a3_1, b3_1, a4_3, b4_3, a4_2, b4_2, a4_1, b4_1, a5_4, b5_4, a5_3, b5_3, a5_2, b5_2, a5_1, b5_1]), ok5, wpR_mono' (fun z s6p e6 k ok6 => ?_) (fun a e k s' => ?_) k⟩
        case refine_2 =>
          intro σ hσ _
          simp only [panD]
          rw [hσ]
          show leav dIn [⟨.func 103, [.ptr i3 1 0], []⟩] _ _ _
          simp only [leav_func, leav_nil, List.nil_append]
          refine ⟨rfl, i3, i1, l, s', rfl, by simp [a2_1, b2_1, a3_2, b3_2, a3_1, b3_1, a4_3, b4_3, a4_2, b4_2, a4_1, b4_1, a5_4, b5_4, a5_3, b5_3, a5_2, b5_2, a5_1, b5_1], by simp [a2_1, b2_1, a3_2, b3_2, a3_1, b3_1, a4_3, b4_3, a4_2, b4_2, a4_1, b4_1, a5_4, b5_4, a5_3, b5_3, a5_2, b5_2, a5_1, b5_1], ?_⟩
          simp only [finD]
          exact mid_pan (s' := { s' with deep := IntKind.i64.wrap (s'.deep - 1) }) (by simp [a2_1, b2_1, a3_2, b3_2, a3_1, b3_1, a4_3, b4_3, a4_2, b4_2, a4_1, b4_1, a5_4, b5_4, a5_3, b5_3, a5_2, b5_2, a5_1, b5_1]) k
        have d6 : s6p.deep = s.deep + 1 := ((hG l).block _ _ _ e6).trans d5
        rw [wpR_ok] at k
        obtain ⟨k, wd⟩ := fin _ s6p ok6 d6 k
        simp (maxSteps := 1000000) only [encN, hp, a2_1, b2_1, a3_2, b3_2, a3_1, b3_1, a4_3, b4_3, a4_2, b4_2, a4_1, b4_1, a5_4, b5_4, a5_3, b5_3, a5_2, b5_2, a5_1, b5_1, len_enc, enc_ok, enc_unnil, part_enc, take5, set5, setE, retD_ret, retD_normal, leav_nil, leav_func, finD, tbG_e, tb64p_e, zzK, seval]
        refine ⟨rfl, i3, i1, l, s6p, rfl, (by simp [a2_1, b2_1, a3_2, b3_2, a3_1, b3_1, a4_3, b4_3, a4_2, b4_2, a4_1, b4_1, a5_4, b5_4, a5_3, b5_3, a5_2, b5_2, a5_1, b5_1]), (by simp [a2_1, b2_1, a3_2, b3_2, a3_1, b3_1, a4_3, b4_3, a4_2, b4_2, a4_1, b4_1, a5_4, b5_4, a5_3, b5_3, a5_2, b5_2, a5_1, b5_1]), ?_⟩
        rw [wd]
        simp (maxSteps := 1000000) only [hp, a2_1, b2_1, a3_2, b3_2, a3_1, b3_1, a4_3, b4_3, a4_2, b4_2, a4_1, b4_1, a5_4, b5_4, a5_3, b5_3, a5_2, b5_2, a5_1, b5_1, len_enc, enc_ok, enc_unnil, part_enc, take5, set5, setE, retD_ret, retD_normal, leav_nil, leav_func, finD, tbG_e, tb64p_e, zzK, seval]
        exact mid_ret' (x := .mk nk nt ns nm [x, y, z]) (s' := { s6p with deep := s6p.deep - 1 }) (by simp only [encN, enc_mk, encs_cons, encs_nil]) (by simp [a2_1, b2_1, a3_2, b3_2, a3_1, b3_1, a4_3, b4_3, a4_2, b4_2, a4_1, b4_1, a5_4, b5_4, a5_3, b5_3, a5_2, b5_2, a5_1, b5_1]) k
end
end Go.Proofs.YtpagdhbmbnoddaaGreatDoor.Zz
namespace Go.Proofs.YtpagdhbmbnoddaaGreatDoor.Zz
noncomputable section
theorem cP_out {α : Type} {enc : α → D} {l : List Tok} {s : PS} {id : Nat} {h : AHeap} {K E : D → AHeap → Prop} {sp : PS → PR α} (e : sp s = .out) (c : cP sp enc l s id h K E) : False := by
  obtain ⟨_, _, c⟩ := c
  rw [e] at c
  exact c
theorem tbF_ok : ∀ f : Nat, (tbG fun l => psF l f).ok Tryz.prog
  | 0 => by
    refine Tab.addE_ok (Tab.addE_ok (Tab.addE_ok (Tab.addE_ok (Tab.addE_ok (Tab.addE_ok tb64p_ok ?_) ?_) ?_) ?_) ?_) ?_
    · rintro args h K E ⟨l, s, id, k, rfl, hl, c⟩; exact (cP_out rfl c).elim
    · rintro args h K E ⟨l, s, id, rfl, hl, c⟩; exact (cP_out rfl c).elim
    · rintro args h K E ⟨l, s, id, k, rfl, hl, c⟩; exact (cP_out rfl c).elim
    · rintro args h K E ⟨l, s, id, rfl, hl, c⟩; exact (cP_out rfl c).elim
    · rintro args h K E ⟨l, s, id, rfl, hl, c⟩; exact (cP_out rfl c).elim
    · rintro args h K E ⟨l, s, id, rfl, hl, c⟩; exact (cP_out rfl c).elim
  | f + 1 => by
    have hT := tbF_ok f
    have hG : ∀ l, PKeep (psF l f) := fun l => keeps_psF l f
    refine Tab.addE_ok (Tab.addE_ok (Tab.addE_ok (Tab.addE_ok (Tab.addE_ok (Tab.addE_ok tb64p_ok ?_) ?_) ?_) ?_) ?_) ?_
    · rintro args h K E ⟨l, s, id, k, rfl, hl, c⟩
      exact cP_ok (fun ok K0 E0 hw => expr_c (fun l => psF l f) hG hT l hl s id k ok K0 E0 hw) c
    · rintro args h K E ⟨l, s, id, rfl, hl, c⟩
      exact cP_ok (fun ok K0 E0 hw => unary_c (fun l => psF l f) hG hT l hl s id ok K0 E0 hw) c
    · rintro args h K E ⟨l, s, id, x, rfl, hl, c⟩
      exact cP_ok (fun ok K0 E0 hw => call_c (fun l => psF l f) hG hT l hl s id x ok K0 E0 hw) c
    · rintro args h K E ⟨l, s, id, rfl, hl, c⟩
      exact cP_ok (fun ok K0 E0 hw => block_c (fun l => psF l f) hG hT l hl s id ok K0 E0 hw) c
    · rintro args h K E ⟨l, s, id, rfl, hl, c⟩
      exact cP_ok (fun ok K0 E0 hw => stmt_c (fun l => psF l f) hG hT l hl s id ok K0 E0 hw) c
    · rintro args h K E ⟨l, s, id, rfl, hl, c⟩
      exact cP_ok (fun ok K0 E0 hw => branch_c (fun l => psF l f) hG hT l hl s id ok K0 E0 hw) c
end
end Go.Proofs.YtpagdhbmbnoddaaGreatDoor.Zz
namespace Go.Proofs.YtpagdhbmbnoddaaGreatDoor.Zz
noncomputable section
def p36p : Plan := ⟨⟨[(12, 4)], [(1, 1), (2, 2), (2, 4), (2, 6), (3, 1), (4, 1), (5, 1), (7, 1), (8, 2), (8, 4), (9, 1), (11, 1), (12, 2), (12, 4), (13, 1), (14, 1), (16, 1), (18, 1), (19, 4), (19, 6), (19, 8), (20, 1), (21, 3)], [], [((19, 4), [(.t 5)]), ((19, 6), [(.t 5)]), ((19, 8), [(.t 5)]), ((21, 3), [(.t 5)])], [((19, 1), (.t 5)), ((21, 1), (.t 5))], []⟩, [(19, [0, 1, 2, 3, 5, 4, 6, 7, 8, 9, 10, 11, 12]), (21, [0, 1, 2, 3, 4, 5, 6, 7])], [], false⟩
def s36p : Stm :=
 .seq (.ops [⟨.alloc [(.int .i64 0), (.int .i64 0), (.str []), (.int .i64 0), .nilsl], some 2, none, false⟩])
 (.seq (.block 0 (.seq (.ops [⟨.mov (.t 0), some 7, none, true⟩,
 ⟨.call (.f 60) [(.t 7), (.c (.str [118, 97, 114]))], some 8, none, false⟩,
 ⟨.mov (.t 8), some 6, none, true⟩])
 (.cond (.t 6)
 (.seq (.ops [⟨.mov (.t 0), some 9, none, true⟩,
 ⟨.mov (.t 0), some 10, none, true⟩,
 ⟨.call (.f 61) [(.t 10)], some 11, none, false⟩,
 ⟨.mov (.t 0), some 12, none, true⟩,
 ⟨.call (.f 62) [(.t 12)], some 13, none, false⟩,
 ⟨.build [(.int .i64 0), (.int .i64 0), (.str []), (.int .i64 0), .nilsl] [(0, 1, (.c (.int .i64 2))), (2, 1, (.t 11)), (1, 1, (.t 13))], some 14, none, true⟩,
 ⟨.call (.f 32) [(.t 9), (.t 14)], some 15, none, false⟩,
 ⟨.alloc [(.int .i64 0), (.int .i64 0), (.str []), (.int .i64 0), .nilsl], some 3, none, false⟩,
 ⟨.store 5 (.t 3) (.t 15), none, none, false⟩])
 (.seq (.ops [⟨.mov (.t 0), some 16, none, true⟩,
 ⟨.call (.f 63) [(.t 16), (.c (.str [61]))], some 17, none, false⟩])
 (.seq (.ops [⟨.mov (.t 0), some 18, none, true⟩,
 ⟨.call (.f 64) [(.t 18)], some 19, none, false⟩,
 ⟨.buildSlice 5 [(.int .i64 0), (.int .i64 0), (.str []), (.int .i64 0), .nilsl] 1 [(0, (.t 19))] false, some 20, none, true⟩,
 ⟨.fieldAddr 4 (.t 3), some 21, none, true⟩,
 ⟨.store 1 (.t 21) (.t 20), none, none, false⟩])
 (.seq (.ops [⟨.mov (.t 0), some 22, none, true⟩,
 ⟨.call (.f 63) [(.t 22), (.c (.str [59]))], some 23, none, false⟩])
 (.seq (.ops [⟨.load (some 5) (.t 3), some 24, none, false⟩,
 ⟨.store 5 (.t 2) (.t 24), none, none, false⟩])
 (.ret))))))
 (.seq (.ops [⟨.mov (.t 0), some 26, none, true⟩,
 ⟨.call (.f 60) [(.t 26), (.c (.str [116, 101, 115, 116]))], some 27, none, false⟩,
 ⟨.mov (.t 27), some 25, none, true⟩])
 (.cond (.t 25)
 (.seq (.ops [⟨.mov (.t 0), some 28, none, true⟩,
 ⟨.mov (.t 0), some 29, none, true⟩,
 ⟨.call (.f 61) [(.t 29)], some 30, none, false⟩,
 ⟨.build [(.int .i64 0), (.int .i64 0), (.str []), (.int .i64 0), .nilsl] [(0, 1, (.c (.int .i64 4))), (2, 1, (.t 30))], some 31, none, true⟩,
 ⟨.call (.f 32) [(.t 28), (.t 31)], some 32, none, false⟩,
 ⟨.alloc [(.int .i64 0), (.int .i64 0), (.str []), (.int .i64 0), .nilsl], some 4, none, false⟩,
 ⟨.store 5 (.t 4) (.t 32), none, none, false⟩])
 (.seq (.ops [⟨.mov (.t 0), some 33, none, true⟩,
 ⟨.call (.f 65) [(.t 33)], some 34, none, false⟩,
 ⟨.buildSlice 5 [(.int .i64 0), (.int .i64 0), (.str []), (.int .i64 0), .nilsl] 1 [(0, (.t 34))] false, some 35, none, true⟩,
 ⟨.fieldAddr 4 (.t 4), some 36, none, true⟩,
 ⟨.store 1 (.t 36) (.t 35), none, none, false⟩])
 (.seq (.ops [⟨.load (some 5) (.t 4), some 37, none, false⟩,
 ⟨.store 5 (.t 2) (.t 37), none, none, false⟩])
 (.ret))))
 (.skip))))))
 (.seq (.ops [⟨.mov (.t 0), some 38, none, true⟩,
 ⟨.call (.f 63) [(.t 38), (.c (.str [102, 117, 110, 99]))], some 39, none, false⟩])
 (.seq (.ops [⟨.mov (.t 0), some 40, none, true⟩,
 ⟨.mov (.t 0), some 41, none, true⟩,
 ⟨.call (.f 61) [(.t 41)], some 42, none, false⟩,
 ⟨.build [(.int .i64 0), (.int .i64 0), (.str []), (.int .i64 0), .nilsl] [(0, 1, (.c (.int .i64 3))), (2, 1, (.t 42))], some 43, none, true⟩,
 ⟨.callR (.f 32) [(.t 40), (.t 43)], some 44, none, false⟩,
 ⟨.alloc [(.int .i64 0), (.int .i64 0), (.str []), (.int .i64 0), .nilsl], some 5, none, false⟩,
 ⟨.store 5 (.t 5) (.t 44), none, none, false⟩])
 (.seq (.ops [⟨.mov (.t 0), some 45, none, true⟩,
 ⟨.call (.f 63) [(.t 45), (.c (.str [40]))], some 46, none, false⟩])
 (.seq (.block 1 (.loop (.seq (.seq (.ops [⟨.mov (.t 0), some 47, none, true⟩,
 ⟨.call (.f 60) [(.t 47), (.c (.str [41]))], some 48, none, false⟩,
 ⟨.un .not (.t 48), some 49, none, true⟩])
 (.cond (.t 49)
 (.skip)
 (.exit 1)))
 (.block 2 (.seq (.seq (.ops [⟨.fieldAddr 4 (.t 5), some 50, none, true⟩,
 ⟨.load none (.t 50), some 51, none, false⟩,
 ⟨.len .sl (.t 51), some 52, none, false⟩,
 ⟨.bin .gtr (.t 52) (.c (.int .i64 0)), some 53, none, true⟩])
 (.cond (.t 53)
 (.ops [⟨.mov (.t 0), some 54, none, true⟩,
 ⟨.call (.f 63) [(.t 54), (.c (.str [44]))], some 55, none, false⟩])
 (.skip)))
 (.seq (.seq (.ops [⟨.fieldAddr 4 (.t 5), some 56, none, true⟩,
 ⟨.load none (.t 56), some 57, none, false⟩,
 ⟨.len .sl (.t 57), some 58, none, false⟩,
 ⟨.bin .geq (.t 58) (.c (.int .i64 6)), some 59, none, true⟩])
 (.cond (.t 59)
 (.ops [⟨.mov (.t 0), some 60, none, true⟩,
 ⟨.call (.f 35) [(.t 60), (.c (.int .i64 3))], some 61, none, false⟩])
 (.skip)))
 (.opsD 62 [⟨.fieldAddr 4 (.t 5), some 62, none, true⟩,
 ⟨.loadOf none (.t 62) (.t 5), some 63, none, false⟩,
 ⟨.mov (.t 0), some 64, none, true⟩,
 ⟨.mov (.t 0), some 65, none, true⟩,
 ⟨.mov (.t 0), some 67, none, true⟩,
 ⟨.callNe (.f 61) [(.t 65)] [(.t 5)], some 66, none, false⟩,
 ⟨.callNe (.f 62) [(.t 67)] [(.t 5)], some 68, none, false⟩,
 ⟨.build [(.int .i64 0), (.int .i64 0), (.str []), (.int .i64 0), .nilsl] [(0, 1, (.c (.int .i64 5))), (2, 1, (.t 66)), (1, 1, (.t 68))], some 69, none, true⟩,
 ⟨.callNe (.f 32) [(.t 64), (.t 69)] [(.t 5)], some 70, none, false⟩,
 ⟨.buildSlice 5 [(.int .i64 0), (.int .i64 0), (.str []), (.int .i64 0), .nilsl] 1 [(0, (.t 70))] false, some 71, none, true⟩,
 ⟨.append 5 64 false (.t 63) (.t 71), some 72, none, false⟩,
 ⟨.fieldAddr 4 (.t 5), some 73, none, true⟩,
 ⟨.store 1 (.t 73) (.t 72), none, none, false⟩])))))))
 (.seq (.ops [⟨.mov (.t 0), some 74, none, true⟩,
 ⟨.call (.f 62) [(.t 74)], some 75, none, false⟩,
 ⟨.fieldAddr 1 (.t 5), some 76, none, true⟩,
 ⟨.store 1 (.t 76) (.t 75), none, none, false⟩])
 (.seq (.opsD 77 [⟨.fieldAddr 4 (.t 5), some 77, none, true⟩,
 ⟨.loadOf none (.t 77) (.t 5), some 78, none, false⟩,
 ⟨.mov (.t 0), some 79, none, true⟩,
 ⟨.callNe (.f 65) [(.t 79)] [(.t 5)], some 80, none, false⟩,
 ⟨.buildSlice 5 [(.int .i64 0), (.int .i64 0), (.str []), (.int .i64 0), .nilsl] 1 [(0, (.t 80))] false, some 81, none, true⟩,
 ⟨.append 5 64 false (.t 78) (.t 81), some 82, none, false⟩,
 ⟨.fieldAddr 4 (.t 5), some 83, none, true⟩,
 ⟨.store 1 (.t 83) (.t 82), none, none, false⟩])
 (.seq (.ops [⟨.load (some 5) (.t 5), some 84, none, false⟩,
 ⟨.store 5 (.t 2) (.t 84), none, none, false⟩])
 (.ret)))))))))
theorem st36p : stmOf Tryz.prog 36 p36p = some (s36p, [.cell 2 (some 5)], 85) := by kernel_rfl
def funcG (l : List Tok) (g : PRec) (s : PS) : PR Nd := (pMust l wFunc s).bind fun _ s => (pName l s).bind fun x s => (pNode l (.mk 3 0 x 0 []) s).bind fun n s => (pMust l [40] s).bind fun _ s =>
  (paramL l (l.length + 1) n s).bind fun n s => (pTyp l s).bind fun t s => (g.block s).bind fun b s => .ok ((n.setT t).addKid b) s
theorem declG_eq (l : List Tok) (g : PRec) (s : PS) : declG l g s = (pTake l wVar s).bind fun b s => bif b then (pName l s).bind fun x s => (pTyp l s).bind fun t s => (pNode l (.mk 2 t x 0 []) s).bind fun n s => (pMust l [61] s).bind fun _ s => (pLit l s).bind fun v s => (pMust l [59] s).bind fun _ s => .ok (n.setKids [v]) s else
  (pTake l wTest s).bind fun b s => bif b then (pName l s).bind fun x s => (pNode l (.mk 4 0 x 0 []) s).bind fun n s => (g.block s).bind fun b s => .ok (n.setKids [b]) s else funcG l g s := rfl
set_option maxHeartbeats 1000000 in
theorem decl_c (G : List Tok → PRec) (hG : ∀ l, PKeep (G l)) (hT : (tbG G).ok Tryz.prog) (l : List Tok) (hl : WOk l) (s : PS) (i1 : Nat) (ok : PSok l s) (K0 : Nd → PS → Prop) (E0 : Int → Int → Prop) (hw : wpR (declG l (G l) s) (fun x s' => PSok l s' → K0 x s') E0) : ACalls Tryz.prog 36 [.ptr i1 1 0] (AHeap.emp.set i1 (pObj l s)) (retP encN l i1 K0 E0) := by
  refine ACalls.of_stmD hT (dc := DTab.none) (fun _ _ => DTab.none_ok) (by kernel_rfl) st36p (by simp) ?_
  rw [vc_todo]
  have hp := fun (h : AHeap) (j : Nat) (B C : AObj) => push_id (id := i1) h j B C
  rw [declG_eq, wpR_bind] at hw
  simp (maxSteps := 1000000) only [s36p, hp, hp, len_enc, enc_ok, enc_unnil, part_enc, take5, set5, setE, retD_ret, retD_normal, leav_nil, leav_func, finD, tbG_e, tb64p_e, zzK, seval]
  intro i2 a2_1 b2_1
  refine ⟨l, s, i1, wVar, rfl, hl.lo, (by simp [a2_1, b2_1]), ok, wpR_mono' (fun b s1p e1 k ok1 => ?_) (fun a e k s' => ?_) hw⟩
  case refine_2 =>
    simp only [panD, leav_nil, finD]
    exact mid_pan (s' := s') (by simp [a2_1, b2_1]) k
  cases b with
  | true =>
    rw [cond_true, wpR_bind] at k
    simp (maxSteps := 1000000) only [hp, a2_1, b2_1, len_enc, enc_ok, enc_unnil, part_enc, take5, set5, setE, retD_ret, retD_normal, leav_nil, leav_func, finD, tbG_e, tb64p_e, zzK, seval]
    refine ⟨l, s1p, i1, rfl, hl.lo, (by simp [a2_1, b2_1]), ok1, wpR_mono' (fun x s2p e2 k ok2 => ?_) (fun a e k s' => ?_) k⟩
    case refine_2 =>
      simp only [panD, leav_nil, finD]
      exact mid_pan (s' := s') (by simp [a2_1, b2_1]) k
    rw [wpR_bind] at k
    simp (maxSteps := 1000000) only [hp, a2_1, b2_1, len_enc, enc_ok, enc_unnil, part_enc, take5, set5, setE, retD_ret, retD_normal, leav_nil, leav_func, finD, tbG_e, tb64p_e, zzK, seval]
    refine ⟨l, s2p, i1, rfl, hl.lo, (by simp [a2_1, b2_1]), ok2, wpR_mono' (fun t s3p e3 k ok3 => ?_) (fun a e k s' => ?_) k⟩
    case refine_2 =>
      simp only [panD, leav_nil, finD]
      exact mid_pan (s' := s') (by simp [a2_1, b2_1]) k
    rw [wpR_bind] at k
    simp (maxSteps := 1000000) only [hp, a2_1, b2_1, len_enc, enc_ok, enc_unnil, part_enc, take5, set5, setE, retD_ret, retD_normal, leav_nil, leav_func, finD, tbG_e, tb64p_e, zzK, seval]
    refine .inl ⟨l, s3p, i1, .mk 2 t x 0 [], by simp only [enc_mk, encs_nil], hl.lo, (by simp [a2_1, b2_1]), ok3, wpR_mono' (fun n s4p e4 k ok4 => ?_) (fun a e k s' => ?_) k⟩
    case refine_2 =>
      simp only [panD, leav_nil, finD]
      exact mid_pan (s' := s') (by simp [a2_1, b2_1]) k
    obtain ⟨nk, nt, ns, nm, nl⟩ := n
    rw [wpR_bind] at k
    simp (maxSteps := 1000000) only [encN, enc_mk, hp, a2_1, b2_1, len_enc, enc_ok, enc_unnil, part_enc, take5, set5, setE, retD_ret, retD_normal, leav_nil, leav_func, finD, tbG_e, tb64p_e, zzK, seval]
    intro i3 a3_2 b3_2 a3_1 b3_1
    refine ⟨l, s4p, i1, [61], rfl, hl.lo, (by simp [a2_1, b2_1, a3_2, b3_2, a3_1, b3_1]), ok4, wpR_mono' (fun _ s5p e5 k ok5 => ?_) (fun a e k s' => ?_) k⟩
    case refine_2 =>
      simp only [panD, leav_nil, finD]
      exact mid_pan (s' := s') (by simp [a2_1, b2_1, a3_2, b3_2, a3_1, b3_1]) k
    rw [wpR_bind] at k
    simp (maxSteps := 1000000) only [hp, a2_1, b2_1, a3_2, b3_2, a3_1, b3_1, len_enc, enc_ok, enc_unnil, part_enc, take5, set5, setE, retD_ret, retD_normal, leav_nil, leav_func, finD, tbG_e, tb64p_e, zzK, seval]
    refine ⟨l, s5p, i1, rfl, hl, (by simp [a2_1, b2_1, a3_2, b3_2, a3_1, b3_1]), ok5, wpR_mono' (fun v s6p e6 k ok6 => ?_) (fun a e k s' => ?_) k⟩
    case refine_2 =>
      simp only [panD, leav_nil, finD]
      exact mid_pan (s' := s') (by simp [a2_1, b2_1, a3_2, b3_2, a3_1, b3_1]) k
    rw [wpR_bind] at k
    simp (maxSteps := 1000000) only [encN, hp, a2_1, b2_1, a3_2, b3_2, a3_1, b3_1, len_enc, enc_ok, enc_unnil, part_enc, take5, set5, setE, retD_ret, retD_normal, leav_nil, leav_func, finD, tbG_e, tb64p_e, zzK, seval]
    refine ⟨l, s6p, i1, [59], rfl, hl.lo, (by simp [a2_1, b2_1, a3_2, b3_2, a3_1, b3_1]), ok6, wpR_mono' (fun _ s7p e7 k ok7 => ?_) (fun a e k s' => ?_) k⟩
    case refine_2 =>
      simp only [panD, leav_nil, finD]
      exact mid_pan (s' := s') (by simp [a2_1, b2_1, a3_2, b3_2, a3_1, b3_1]) k
    rw [wpR_ok] at k
    simp (maxSteps := 1000000) only [hp, a2_1, b2_1, a3_2, b3_2, a3_1, b3_1, len_enc, enc_ok, enc_unnil, part_enc, take5, set5, setE, retD_ret, retD_normal, leav_nil, leav_func, finD, tbG_e, tb64p_e, zzK, seval]
    exact mid_ret (x := .mk nk nt ns nm [v]) (s' := s7p) (by rw [encN, enc_mk, encs_cons, encs_nil]) (by simp [a2_1, b2_1, a3_2, b3_2, a3_1, b3_1]) (k ok7)
  | false =>
  rw [cond_false, wpR_bind] at k
  simp (maxSteps := 1000000) only [hp, a2_1, b2_1, len_enc, enc_ok, enc_unnil, part_enc, take5, set5, setE, retD_ret, retD_normal, leav_nil, leav_func, finD, tbG_e, tb64p_e, zzK, seval]
  refine ⟨l, s1p, i1, wTest, rfl, hl.lo, (by simp [a2_1, b2_1]), ok1, wpR_mono' (fun b s2p e2 k ok2 => ?_) (fun a e k s' => ?_) k⟩
  case refine_2 =>
    simp only [panD, leav_nil, finD]
    exact mid_pan (s' := s') (by simp [a2_1, b2_1]) k
  cases b with
  | true =>
    rw [cond_true, wpR_bind] at k
    simp (maxSteps := 1000000) only [hp, a2_1, b2_1, len_enc, enc_ok, enc_unnil, part_enc, take5, set5, setE, retD_ret, retD_normal, leav_nil, leav_func, finD, tbG_e, tb64p_e, zzK, seval]
    refine ⟨l, s2p, i1, rfl, hl.lo, (by simp [a2_1, b2_1]), ok2, wpR_mono' (fun x s3p e3 k ok3 => ?_) (fun a e k s' => ?_) k⟩
    case refine_2 =>
      simp only [panD, leav_nil, finD]
      exact mid_pan (s' := s') (by simp [a2_1, b2_1]) k
    rw [wpR_bind] at k
    simp (maxSteps := 1000000) only [hp, a2_1, b2_1, len_enc, enc_ok, enc_unnil, part_enc, take5, set5, setE, retD_ret, retD_normal, leav_nil, leav_func, finD, tbG_e, tb64p_e, zzK, seval]
    refine .inl ⟨l, s3p, i1, .mk 4 0 x 0 [], by simp only [enc_mk, encs_nil], hl.lo, (by simp [a2_1, b2_1]), ok3, wpR_mono' (fun n s4p e4 k ok4 => ?_) (fun a e k s' => ?_) k⟩
    case refine_2 =>
      simp only [panD, leav_nil, finD]
      exact mid_pan (s' := s') (by simp [a2_1, b2_1]) k
    obtain ⟨nk, nt, ns, nm, nl⟩ := n
    rw [wpR_bind] at k
    simp (maxSteps := 1000000) only [encN, enc_mk, hp, a2_1, b2_1, len_enc, enc_ok, enc_unnil, part_enc, take5, set5, setE, retD_ret, retD_normal, leav_nil, leav_func, finD, tbG_e, tb64p_e, zzK, seval]
    intro i3 a3_2 b3_2 a3_1 b3_1
    refine ⟨l, s4p, i1, rfl, hl, (by simp [a2_1, b2_1, a3_2, b3_2, a3_1, b3_1]), ok4, wpR_mono' (fun y s5p e5 k ok5 => ?_) (fun a e k s' => ?_) k⟩
    case refine_2 =>
      simp only [panD, leav_nil, finD]
      exact mid_pan (s' := s') (by simp [a2_1, b2_1, a3_2, b3_2, a3_1, b3_1]) k
    rw [wpR_ok] at k
    simp (maxSteps := 1000000) only [encN, hp, a2_1, b2_1, a3_2, b3_2, a3_1, b3_1, len_enc, enc_ok, enc_unnil, part_enc, take5, set5, setE, retD_ret, retD_normal, leav_nil, leav_func, finD, tbG_e, tb64p_e, zzK, seval]
    exact mid_ret (x := .mk nk nt ns nm [y]) (s' := s5p) (by rw [encN, enc_mk, encs_cons, encs_nil]) (by simp [a2_1, b2_1, a3_2, b3_2, a3_1, b3_1]) (k ok5)
  | false =>
  rw [cond_false] at k
  unfold funcG at k
  rw [wpR_bind] at k
  simp (maxSteps := 1000000) only [hp, a2_1, b2_1, len_enc, enc_ok, enc_unnil, part_enc, take5, set5, setE, retD_ret, retD_normal, leav_nil, leav_func, finD, tbG_e, tb64p_e, zzK, seval]
  refine ⟨l, s2p, i1, wFunc, rfl, hl.lo, (by simp [a2_1, b2_1]), ok2, wpR_mono' (fun _ s3p e3 k ok3 => ?_) (fun a e k s' => ?_) k⟩
  case refine_2 =>
    simp only [panD, leav_nil, finD]
    exact mid_pan (s' := s') (by simp [a2_1, b2_1]) k
  rw [wpR_bind] at k
  simp (maxSteps := 1000000) only [hp, a2_1, b2_1, len_enc, enc_ok, enc_unnil, part_enc, take5, set5, setE, retD_ret, retD_normal, leav_nil, leav_func, finD, tbG_e, tb64p_e, zzK, seval]
  refine ⟨l, s3p, i1, rfl, hl.lo, (by simp [a2_1, b2_1]), ok3, wpR_mono' (fun x s4p e4 k ok4 => ?_) (fun a e k s' => ?_) k⟩
  case refine_2 =>
    simp only [panD, leav_nil, finD]
    exact mid_pan (s' := s') (by simp [a2_1, b2_1]) k
  rw [wpR_bind] at k
  simp (maxSteps := 1000000) only [i_callR, encZ, hp, a2_1, b2_1, len_enc, enc_ok, enc_unnil, part_enc, take5, set5, setE, retD_ret, retD_normal, leav_nil, leav_func, finD, tbG_e, tb64p_e, zzK, seval]
  refine .inr ⟨l, s4p, i1, .mk 3 0 x 0 [], rfl, hl.lo, (by simp [a2_1, b2_1]), ok4, wpR_mono' (fun n s5p e5 k ok5 => ?_) (fun a e k s' => ?_) k⟩
  case refine_2 =>
    simp only [panD, leav_nil, finD]
    exact mid_pan (s' := s') (by simp [a2_1, b2_1]) k
  have hn := pNode_eq e5
  subst hn
  rw [wpR_bind] at k
  simp (maxSteps := 1000000) only [encZ, hp, a2_1, b2_1, len_enc, enc_ok, enc_unnil, part_enc, take5, set5, setE, retD_ret, retD_normal, leav_nil, leav_func, finD, tbG_e, tb64p_e, zzK, seval]
  intro i3 a3_2 b3_2 a3_1 b3_1
  refine ⟨l, s5p, i1, [40], rfl, hl.lo, (by simp [a2_1, b2_1, a3_2, b3_2, a3_1, b3_1]), ok5, wpR_mono' (fun _ s6p e6 k ok6 => ?_) (fun a e k s' => ?_) k⟩
  case refine_2 =>
    simp only [panD, leav_nil, finD]
    exact mid_pan (s' := s') (by simp [a2_1, b2_1, a3_2, b3_2, a3_1, b3_1]) k
  rw [wpR_bind] at k
  obtain ⟨Kr, k, hKr⟩ : ∃ Kr : Nd → PS → Prop, wpR (paramL l (l.length + 1) (.mk 3 0 x 0 []) s6p) Kr E0 ∧ ∀ n s, Kr n s → wpR ((pTyp l s).bind fun t s => ((G l).block s).bind fun b s => .ok ((n.setT t).addKid b) s) (fun x s' => PSok l s' → K0 x s') E0 := ⟨_, k, fun _ _ h => h⟩
  simp (maxSteps := 1000000) only [hp, a2_1, b2_1, a3_2, b3_2, a3_1, b3_1, len_enc, enc_ok, enc_unnil, part_enc, take5, set5, setE, retD_ret, retD_normal, leav_nil, leav_func, finD, tbG_e, tb64p_e, zzK, seval]
  refine run_loop (X := Nat × Nd × Nat × PS) (fun z => [(0, .ptr i1 1 0), (2, .ptr i2 1 0), (5, .ptr i3 1 0)])
    (fun z => withK (((AHeap.emp.set i1 (pObj l z.2.2.2)).set i2 (.cells [.int .i64 0, .int .i64 0, .str [], .int .i64 0, .nilsl])).set i3 (.cells (encW z.2.1 z.2.2.1))) z.2.1 z.2.2.1) (fun z => z.1)
    (fun z => PSok l z.2.2.2 ∧ wpR (paramL l z.1 z.2.1 z.2.2.2) Kr E0 ∧ (z.2.1.kidsOf ≠ [] → ¬ z.2.2.1 = i1 ∧ ¬ z.2.2.1 = i2 ∧ ¬ z.2.2.1 = i3) ∧ z.2.1.kidsOf.length ≤ 6)
    (l.length + 1, .mk 3 0 x 0 [], 0, s6p) ⟨ok6, k, fun h => absurd rfl h, Nat.zero_le _⟩ (by simp only [tb64p_e, zzK, seval]) (AHeap.sub_refl _) ?_
  clear hw
  rintro ⟨j, n, r, s0p⟩ Q ⟨ok0, hw, hr, h6⟩ hQ
  simp only at ok0 hw hr h6 hQ ⊢
  cases j with
  | zero => exact hw.elim
  | succ j =>
  unfold paramL at hw
  rw [wpR_bind] at hw
  obtain ⟨nk, nt, ns, nm, nl⟩ := n
  simp only [Nd.kidsOf] at hw hr h6
  by_cases hnl : nl = []
  · subst hnl
    have hH : ∀ h : AHeap, withK h (.mk nk nt ns nm []) r = h := fun h => if_pos rfl
    rw [hH, encW, List.length_nil, ownD_zero]
    simp (maxSteps := 1000000) only [hp, a2_1, b2_1, a3_2, b3_2, a3_1, b3_1, len_enc, enc_ok, enc_unnil, part_enc, take5, set5, setE, retD_ret, retD_normal, leav_nil, leav_func, finD, tbG_e, tb64p_e, zzK, seval]
    refine ⟨l, s0p, i1, [41], rfl, hl.lo, (by simp [a2_1, b2_1, a3_2, b3_2, a3_1, b3_1]), ok0, wpR_mono' (fun b s1p e1 k ok1 => ?_) (fun a e k s' => ?_) hw⟩
    case refine_2 =>
      simp only [panD, leav_nil, finD]
      exact mid_pan (s' := s') (by simp [a2_1, b2_1, a3_2, b3_2, a3_1, b3_1]) k
    cases b with
    | true =>
      rw [cond_true, wpR_ok] at k
      have k := hKr _ _ k
      rw [wpR_bind] at k
      simp (maxSteps := 1000000) only [hp, a2_1, b2_1, a3_2, b3_2, a3_1, b3_1, len_enc, enc_ok, enc_unnil, part_enc, take5, set5, setE, retD_ret, retD_normal, leav_nil, leav_func, finD, tbG_e, tb64p_e, zzK, seval]
      refine ⟨l, s1p, i1, rfl, hl.lo, (by simp [a2_1, b2_1, a3_2, b3_2, a3_1, b3_1]), ok1, wpR_mono' (fun t s2p e2 k ok2 => ?_) (fun a e k s' => ?_) k⟩
      case refine_2 =>
        simp only [panD, leav_nil, finD]
        exact mid_pan (s' := s') (by simp [a2_1, b2_1, a3_2, b3_2, a3_1, b3_1]) k
      rw [wpR_bind] at k
      simp (maxSteps := 1000000) only [hp, a2_1, b2_1, a3_2, b3_2, a3_1, b3_1, len_enc, enc_ok, enc_unnil, part_enc, take5, set5, setE, retD_ret, retD_normal, leav_nil, leav_func, finD, tbG_e, tb64p_e, zzK, seval]
      refine ⟨l, s2p, i1, rfl, hl, (by simp [a2_1, b2_1, a3_2, b3_2, a3_1, b3_1]), ok2, wpR_mono' (fun y s3p e3 k ok3 => ?_) (fun a e k s' => ?_) k⟩
      case refine_2 =>
        intro σ hσ _
        simp only [panD]
        rw [hσ]
        show leav DTab.none [] _ _ _
        simp only [leav_nil, finD]
        exact mid_pan (s' := s') (by simp [a2_1, b2_1, a3_2, b3_2, a3_1, b3_1]) k
      rw [wpR_ok] at k
      simp (maxSteps := 1000000) only [encN, hp, a2_1, b2_1, a3_2, b3_2, a3_1, b3_1, len_enc, enc_ok, enc_unnil, part_enc, take5, set5, setE, retD_ret, retD_normal, leav_nil, leav_func, finD, tbG_e, tb64p_e, zzK, seval]
      intro i4 a4_3 b4_3 a4_2 b4_2 a4_1 b4_1
      simp (maxSteps := 1000000) only [hp, a2_1, b2_1, a3_2, b3_2, a3_1, b3_1, a4_3, b4_3, a4_2, b4_2, a4_1, b4_1, len_enc, enc_ok, enc_unnil, part_enc, take5, set5, setE, retD_ret, retD_normal, leav_nil, leav_func, finD, tbG_e, tb64p_e, zzK, seval]
      exact mid_ret' (x := .mk nk t ns nm [y]) (s' := s3p) (by rw [encN, enc_mk, encs_cons, encs_nil]) (by simp [a2_1, b2_1, a3_2, b3_2, a3_1, b3_1, a4_3, b4_3, a4_2, b4_2, a4_1, b4_1]) (k ok3)
    | false =>
      rw [cond_false] at k
      replace k : wpR ((pName l s1p).bind fun x s => (pTyp l s).bind fun t s => (pNode l (.mk 5 t x 0 []) s).bind fun m s => paramL l j ((Nd.mk nk nt ns nm []).addKid m) s) Kr E0 := k
      rw [wpR_bind] at k
      simp (maxSteps := 1000000) only [hp, a2_1, b2_1, a3_2, b3_2, a3_1, b3_1, len_enc, enc_ok, enc_unnil, part_enc, take5, set5, setE, retD_ret, retD_normal, leav_nil, leav_func, finD, tbG_e, tb64p_e, zzK, seval]
      refine ⟨l, s1p, i1, rfl, hl.lo, (by simp [a2_1, b2_1, a3_2, b3_2, a3_1, b3_1]), ok1, wpR_mono' (fun x s2p e2 k ok2 => ?_) (fun a e k s' => ?_) k⟩
      case refine_2 =>
        intro σ hσ _
        simp only [panD]
        rw [hσ]
        show leav DTab.none [] _ _ _
        simp only [leav_nil, finD]
        exact mid_pan (s' := s') (by simp [a2_1, b2_1, a3_2, b3_2, a3_1, b3_1]) k
      rw [wpR_bind] at k
      simp (maxSteps := 1000000) only [hp, a2_1, b2_1, a3_2, b3_2, a3_1, b3_1, len_enc, enc_ok, enc_unnil, part_enc, take5, set5, setE, retD_ret, retD_normal, leav_nil, leav_func, finD, tbG_e, tb64p_e, zzK, seval]
      refine ⟨l, s2p, i1, rfl, hl.lo, (by simp [a2_1, b2_1, a3_2, b3_2, a3_1, b3_1]), ok2, wpR_mono' (fun t s3p e3 k ok3 => ?_) (fun a e k s' => ?_) k⟩
      case refine_2 =>
        intro σ hσ _
        simp only [panD]
        rw [hσ]
        show leav DTab.none [] _ _ _
        simp only [leav_nil, finD]
        exact mid_pan (s' := s') (by simp [a2_1, b2_1, a3_2, b3_2, a3_1, b3_1]) k
      rw [wpR_bind] at k
      simp (maxSteps := 1000000) only [hp, a2_1, b2_1, a3_2, b3_2, a3_1, b3_1, len_enc, enc_ok, enc_unnil, part_enc, take5, set5, setE, retD_ret, retD_normal, leav_nil, leav_func, finD, tbG_e, tb64p_e, zzK, seval]
      refine .inl ⟨l, s3p, i1, .mk 5 t x 0 [], by simp only [enc_mk, encs_nil], hl.lo, (by simp [a2_1, b2_1, a3_2, b3_2, a3_1, b3_1]), ok3, wpR_mono' (fun m s4p e4 k ok4 => ?_) (fun a e k s' => ?_) k⟩
      case refine_2 =>
        intro σ hσ _
        simp only [panD]
        rw [hσ]
        show leav DTab.none [] _ _ _
        simp only [leav_nil, finD]
        exact mid_pan (s' := s') (by simp [a2_1, b2_1, a3_2, b3_2, a3_1, b3_1]) k
      simp (maxSteps := 1000000) only [encN, hp, a2_1, b2_1, a3_2, b3_2, a3_1, b3_1, len_enc, enc_ok, enc_unnil, part_enc, take5, set5, setE, retD_ret, retD_normal, leav_nil, leav_func, finD, tbG_e, tb64p_e, zzK, seval]
      intro i4 a4_3 b4_3 a4_2 b4_2 a4_1 b4_1
      simp (maxSteps := 1000000) only [hp, a2_1, b2_1, a3_2, b3_2, a3_1, b3_1, a4_3, b4_3, a4_2, b4_2, a4_1, b4_1, len_enc, enc_ok, enc_unnil, part_enc, take5, set5, setE, retD_ret, retD_normal, leav_nil, leav_func, finD, tbG_e, tb64p_e, zzK, seval]
      refine hQ (j, .mk nk nt ns nm [m], i4, s4p) _ _ ⟨ok4, k, fun _ => ⟨a4_1, a4_2, a4_3⟩, by simp [Nd.kidsOf]⟩ (by simp only [tb64p_e, zzK, seval]) ?_ (by simp only; omega)
      simp only [withK, Nd.kidsOf, encW, List.length_cons, List.length_nil, encs_cons, encs_nil, reduceCtorEq, if_false, ownD_pos (Nat.succ_ne_zero 0)]
      exact AHeap.sub_X (by repeat' first | with_reducible exact AHeap.subX_refl | with_reducible exact AHeap.subX_emp | refine AHeap.subX_l (by simp [a2_1, b2_1, a3_2, b3_2, a3_1, b3_1, a4_3, b4_3, a4_2, b4_2, a4_1, b4_1]) ?_ | refine AHeap.subX_r (by simp [a2_1, b2_1, a3_2, b3_2, a3_1, b3_1, a4_3, b4_3, a4_2, b4_2, a4_1, b4_1]) ?_)
  · obtain ⟨i4, rfl⟩ : ∃ q, q = r := ⟨r, rfl⟩
    obtain ⟨a4_1, a4_2, a4_3⟩ := hr hnl
    have b4_1 : ¬ i1 = i4 := fun e => a4_1 e.symm
    have b4_2 : ¬ i2 = i4 := fun e => a4_2 e.symm
    have b4_3 : ¬ i3 = i4 := fun e => a4_3 e.symm
    have hH : ∀ h : AHeap, withK h (.mk nk nt ns nm nl) i4 = h.set i4 (.row 5 (nl.length + 2) (Nd.encs nl) false) := fun h => if_neg hnl
    have hl0 : nl.length ≠ 0 := fun e => hnl (List.length_eq_zero_iff.1 e)
    have tk : (Nd.encs nl).take nl.length = Nd.encs nl := List.take_of_length_le (by rw [len_encs]; omega)
    rw [hH, encW, ownD_pos hl0]
    simp (maxSteps := 1000000) only [hp, a2_1, b2_1, a3_2, b3_2, a3_1, b3_1, a4_3, b4_3, a4_2, b4_2, a4_1, b4_1, len_enc, enc_ok, enc_unnil, part_enc, take5, set5, setE, retD_ret, retD_normal, leav_nil, leav_func, finD, tbG_e, tb64p_e, zzK, seval]
    refine ⟨l, s0p, i1, [41], rfl, hl.lo, (by simp [a2_1, b2_1, a3_2, b3_2, a3_1, b3_1, a4_3, b4_3, a4_2, b4_2, a4_1, b4_1]), ok0, wpR_mono' (fun b s1p e1 k ok1 => ?_) (fun a e k s' => ?_) hw⟩
    case refine_2 =>
      simp only [panD, leav_nil, finD]
      exact mid_pan (s' := s') (by simp [a2_1, b2_1, a3_2, b3_2, a3_1, b3_1, a4_3, b4_3, a4_2, b4_2, a4_1, b4_1]) k
    cases b with
    | true =>
      rw [cond_true, wpR_ok] at k
      have k := hKr _ _ k
      rw [wpR_bind] at k
      simp (maxSteps := 1000000) only [hp, a2_1, b2_1, a3_2, b3_2, a3_1, b3_1, a4_3, b4_3, a4_2, b4_2, a4_1, b4_1, len_enc, enc_ok, enc_unnil, part_enc, take5, set5, setE, retD_ret, retD_normal, leav_nil, leav_func, finD, tbG_e, tb64p_e, zzK, seval]
      refine ⟨l, s1p, i1, rfl, hl.lo, (by simp [a2_1, b2_1, a3_2, b3_2, a3_1, b3_1, a4_3, b4_3, a4_2, b4_2, a4_1, b4_1]), ok1, wpR_mono' (fun t s2p e2 k ok2 => ?_) (fun a e k s' => ?_) k⟩
      case refine_2 =>
        simp only [panD, leav_nil, finD]
        exact mid_pan (s' := s') (by simp [a2_1, b2_1, a3_2, b3_2, a3_1, b3_1, a4_3, b4_3, a4_2, b4_2, a4_1, b4_1]) k
      rw [wpR_bind] at k
      simp (maxSteps := 1000000) only [hp, a2_1, b2_1, a3_2, b3_2, a3_1, b3_1, a4_3, b4_3, a4_2, b4_2, a4_1, b4_1, len_enc, enc_ok, enc_unnil, part_enc, take5, set5, setE, retD_ret, retD_normal, leav_nil, leav_func, finD, tbG_e, tb64p_e, zzK, seval]
      refine ⟨l, s2p, i1, rfl, hl, (by simp [a2_1, b2_1, a3_2, b3_2, a3_1, b3_1, a4_3, b4_3, a4_2, b4_2, a4_1, b4_1]), ok2, wpR_mono' (fun y s3p e3 k ok3 => ?_) (fun a e k s' => ?_) k⟩
      case refine_2 =>
        intro σ hσ _
        simp only [panD]
        rw [hσ]
        show leav DTab.none [] _ _ _
        simp only [leav_nil, finD]
        exact mid_pan (s' := s') (by simp [a2_1, b2_1, a3_2, b3_2, a3_1, b3_1, a4_3, b4_3, a4_2, b4_2, a4_1, b4_1]) k
      rw [wpR_ok] at k
      have tk2 : (Nd.encs nl ++ [y.enc]).take (nl.length + 1) = Nd.encs nl ++ [y.enc] := List.take_of_length_le (by rw [List.length_append, len_encs]; simp)
      have hle : (Nd.encs nl ++ [y.enc]).length = nl.length + 1 := by rw [List.length_append, len_encs]; simp
      simp (maxSteps := 1000000) only [encN, len_encs, hp, a2_1, b2_1, a3_2, b3_2, a3_1, b3_1, a4_3, b4_3, a4_2, b4_2, a4_1, b4_1, len_enc, enc_ok, enc_unnil, part_enc, take5, set5, setE, retD_ret, retD_normal, leav_nil, leav_func, finD, tbG_e, tb64p_e, zzK, seval]
      refine ⟨by omega, ?_⟩
      simp (maxSteps := 1000000) only [len_encs, tk2, hle, hp, a2_1, b2_1, a3_2, b3_2, a3_1, b3_1, a4_3, b4_3, a4_2, b4_2, a4_1, b4_1, len_enc, enc_ok, enc_unnil, part_enc, take5, set5, setE, retD_ret, retD_normal, leav_nil, leav_func, finD, tbG_e, tb64p_e, zzK, seval]
      exact mid_ret' (x := .mk nk t ns nm (nl ++ [y])) (s' := s3p) (by rw [encN, enc_mk, ← encs_snoc]) (by simp [a2_1, b2_1, a3_2, b3_2, a3_1, b3_1, a4_3, b4_3, a4_2, b4_2, a4_1, b4_1]) (k ok3)
    | false =>
      rw [cond_false, wpR_bind] at k
      have g0 : ((nl.length : Int) > 0) = True := eq_true (by omega)
      replace k := wpR_yes (p := pMust l [44] s1p) (by simp; omega) k
      simp (maxSteps := 1000000) only [g0, len_encs, hp, a2_1, b2_1, a3_2, b3_2, a3_1, b3_1, a4_3, b4_3, a4_2, b4_2, a4_1, b4_1, len_enc, enc_ok, enc_unnil, part_enc, take5, set5, setE, retD_ret, retD_normal, leav_nil, leav_func, finD, tbG_e, tb64p_e, zzK, seval]
      intro _
      refine ⟨l, s1p, i1, [44], rfl, hl.lo, (by simp [a2_1, b2_1, a3_2, b3_2, a3_1, b3_1, a4_3, b4_3, a4_2, b4_2, a4_1, b4_1]), ok1, wpR_mono' (fun _ s2p e2 k ok2 => ?_) (fun a e k s' => ?_) k⟩
      case refine_2 =>
        simp only [panD, leav_nil, finD]
        exact mid_pan (s' := s') (by simp [a2_1, b2_1, a3_2, b3_2, a3_1, b3_1, a4_3, b4_3, a4_2, b4_2, a4_1, b4_1]) k
      by_cases c3p : nl.length ≥ 6
      · have g3 : ((nl.length : Int) ≥ 6) = True := eq_true (by omega)
        replace k := wpR_yes (p := pFail l 3 s2p) (by simpa [Nd.kidsOf] using c3p) k
        simp (maxSteps := 1000000) only [g3, len_encs, hp, a2_1, b2_1, a3_2, b3_2, a3_1, b3_1, a4_3, b4_3, a4_2, b4_2, a4_1, b4_1, len_enc, enc_ok, enc_unnil, part_enc, take5, set5, setE, retD_ret, retD_normal, leav_nil, leav_func, finD, tbG_e, tb64p_e, zzK, seval]
        intro _
        refine ⟨l, s2p, i1, 3, rfl, (by simp [a2_1, b2_1, a3_2, b3_2, a3_1, b3_1, a4_3, b4_3, a4_2, b4_2, a4_1, b4_1]), ok2.at_, ?_⟩
        simp only [panD]
        show leav DTab.none [] _ _ _
        simp only [leav_nil, finD]
        exact mid_pan (s' := s2p) (by simp [a2_1, b2_1, a3_2, b3_2, a3_1, b3_1, a4_3, b4_3, a4_2, b4_2, a4_1, b4_1]) k
      · have g3 : ((nl.length : Int) ≥ 6) = False := eq_false (by omega)
        replace k := wpR_no (q := (pName l s2p).bind fun x s => (pTyp l s).bind fun t s => (pNode l (.mk 5 t x 0 []) s).bind fun m s => paramL l j ((Nd.mk nk nt ns nm nl).addKid m) s) (by simpa [Nd.kidsOf] using c3p) k
        rw [wpR_bind] at k
        simp (maxSteps := 1000000) only [g3, len_encs, hp, a2_1, b2_1, a3_2, b3_2, a3_1, b3_1, a4_3, b4_3, a4_2, b4_2, a4_1, b4_1, len_enc, enc_ok, enc_unnil, part_enc, take5, set5, setE, retD_ret, retD_normal, leav_nil, leav_func, finD, tbG_e, tb64p_e, zzK, seval]
        intro _
        refine ⟨l, s2p, i1, rfl, hl.lo, (by simp [a2_1, b2_1, a3_2, b3_2, a3_1, b3_1, a4_3, b4_3, a4_2, b4_2, a4_1, b4_1]), ok2, wpR_mono' (fun x s3p e3 k ok3 => ?_) (fun a e k s' => ?_) k⟩
        case refine_2 =>
          intro σ hσ _
          simp only [panD]
          rw [hσ]
          show leav DTab.none [] _ _ _
          simp only [leav_nil, finD]
          exact mid_pan (s' := s') (by simp [a2_1, b2_1, a3_2, b3_2, a3_1, b3_1, a4_3, b4_3, a4_2, b4_2, a4_1, b4_1]) k
        rw [wpR_bind] at k
        simp (maxSteps := 1000000) only [hp, a2_1, b2_1, a3_2, b3_2, a3_1, b3_1, a4_3, b4_3, a4_2, b4_2, a4_1, b4_1, len_enc, enc_ok, enc_unnil, part_enc, take5, set5, setE, retD_ret, retD_normal, leav_nil, leav_func, finD, tbG_e, tb64p_e, zzK, seval]
        refine ⟨l, s3p, i1, rfl, hl.lo, (by simp [a2_1, b2_1, a3_2, b3_2, a3_1, b3_1, a4_3, b4_3, a4_2, b4_2, a4_1, b4_1]), ok3, wpR_mono' (fun t s4p e4 k ok4 => ?_) (fun a e k s' => ?_) k⟩
        case refine_2 =>
          intro σ hσ _
          simp only [panD]
          rw [hσ]
          show leav DTab.none [] _ _ _
          simp only [leav_nil, finD]
          exact mid_pan (s' := s') (by simp [a2_1, b2_1, a3_2, b3_2, a3_1, b3_1, a4_3, b4_3, a4_2, b4_2, a4_1, b4_1]) k
        rw [wpR_bind] at k
        simp (maxSteps := 1000000) only [hp, a2_1, b2_1, a3_2, b3_2, a3_1, b3_1, a4_3, b4_3, a4_2, b4_2, a4_1, b4_1, len_enc, enc_ok, enc_unnil, part_enc, take5, set5, setE, retD_ret, retD_normal, leav_nil, leav_func, finD, tbG_e, tb64p_e, zzK, seval]
        refine .inl ⟨l, s4p, i1, .mk 5 t x 0 [], by simp only [enc_mk, encs_nil], hl.lo, (by simp [a2_1, b2_1, a3_2, b3_2, a3_1, b3_1, a4_3, b4_3, a4_2, b4_2, a4_1, b4_1]), ok4, wpR_mono' (fun m s5p e5 k ok5 => ?_) (fun a e k s' => ?_) k⟩
        case refine_2 =>
          intro σ hσ _
          simp only [panD]
          rw [hσ]
          show leav DTab.none [] _ _ _
          simp only [leav_nil, finD]
          exact mid_pan (s' := s') (by simp [a2_1, b2_1, a3_2, b3_2, a3_1, b3_1, a4_3, b4_3, a4_2, b4_2, a4_1, b4_1]) k
        simp (maxSteps := 1000000) only [encN, len_encs, hp, a2_1, b2_1, a3_2, b3_2, a3_1, b3_1, a4_3, b4_3, a4_2, b4_2, a4_1, b4_1, len_enc, enc_ok, enc_unnil, part_enc, take5, set5, setE, retD_ret, retD_normal, leav_nil, leav_func, finD, tbG_e, tb64p_e, zzK, seval]
        refine ⟨by omega, hQ (j, .mk nk nt ns nm (nl ++ [m]), i4, s5p) _ _ ⟨ok5, k, fun _ => ⟨a4_1, a4_2, a4_3⟩, by simp [Nd.kidsOf]; omega⟩ (by simp only [tb64p_e, zzK, seval]) ?_ (by simp only; omega)⟩
        have hne : nl ++ [m] ≠ [] := by simp
        simp only [withK, Nd.kidsOf, encW, List.length_append, List.length_cons, List.length_nil, hne, if_false, ← encs_snoc, ownD_pos (show nl.length + (0 + 1) ≠ 0 by omega)]
        rw [show nl.length + 2 + 1 = nl.length + (0 + 1) + 2 by omega]
        exact AHeap.sub_X (by repeat' first | with_reducible exact AHeap.subX_refl | with_reducible exact AHeap.subX_emp | refine AHeap.subX_l (by simp [a2_1, b2_1, a3_2, b3_2, a3_1, b3_1, a4_3, b4_3, a4_2, b4_2, a4_1, b4_1]) ?_ | refine AHeap.subX_r (by simp [a2_1, b2_1, a3_2, b3_2, a3_1, b3_1, a4_3, b4_3, a4_2, b4_2, a4_1, b4_1]) ?_)
theorem declF_ok (f : Nat) (args : List D) (h : AHeap) (K E : D → AHeap → Prop) (c : ∃ (l : List Tok) (s : PS) (id : Nat), args = [.ptr id 1 0] ∧ WOk l ∧ cP (declG l (psF l f)) encN l s id h K E) : ACalls Tryz.prog 36 args h (AOut.to K E) := by
  obtain ⟨l, s, id, rfl, hl, c⟩ := c
  exact cP_ok (fun ok K0 E0 hw => decl_c (fun l => psF l f) (fun l => keeps_psF l f) (tbF_ok f) l hl s id ok K0 E0 hw) c
end
end Go.Proofs.YtpagdhbmbnoddaaGreatDoor.Zz
