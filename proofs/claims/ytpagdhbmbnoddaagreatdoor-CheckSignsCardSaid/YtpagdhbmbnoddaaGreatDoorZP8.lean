/- Contracts: blocks and calls. -/
import Derived.Test.YtpagdhbmbnoddaaGreatDoorZP6
set_option linter.unnecessarySimpa false
set_option linter.unusedVariables false
set_option linter.unusedSimpArgs false
set_option maxRecDepth 20000
namespace Go.Proofs.YtpagdhbmbnoddaaGreatDoor.Zz
noncomputable section
def p65p : Plan := ⟨⟨[(3, 2)], [(1, 1), (2, 1), (3, 2), (4, 1), (6, 1), (7, 3)], [], [((7, 3), [(.t 3)])], [((7, 1), (.t 3))], []⟩, [(7, [0, 1, 2, 3, 4, 5, 6, 7])], [], false⟩
def s65p : Stm :=
 .seq (.ops [⟨.alloc [(.int .i64 0), (.int .i64 0), (.str []), (.int .i64 0), .nilsl], some 2, none, false⟩])
 (.seq (.seq (.ops [⟨.mov (.t 0), some 4, none, true⟩,
 ⟨.call (.f 86) [(.t 4)], some 5, none, false⟩])
 (.defer (.t 5) []))
 (.seq (.ops [⟨.mov (.t 0), some 6, none, true⟩,
 ⟨.call (.f 63) [(.t 6), (.c (.str [123]))], some 7, none, false⟩])
 (.seq (.ops [⟨.mov (.t 0), some 8, none, true⟩,
 ⟨.build [(.int .i64 0), (.int .i64 0), (.str []), (.int .i64 0), .nilsl] [(0, 1, (.c (.int .i64 6)))], some 9, none, true⟩,
 ⟨.callR (.f 32) [(.t 8), (.t 9)], some 10, none, false⟩,
 ⟨.alloc [(.int .i64 0), (.int .i64 0), (.str []), (.int .i64 0), .nilsl], some 3, none, false⟩,
 ⟨.store 5 (.t 3) (.t 10), none, none, false⟩])
 (.seq (.block 0 (.loop (.seq (.seq (.ops [⟨.mov (.t 0), some 11, none, true⟩,
 ⟨.call (.f 60) [(.t 11), (.c (.str [125]))], some 12, none, false⟩,
 ⟨.un .not (.t 12), some 13, none, true⟩])
 (.cond (.t 13)
 (.skip)
 (.exit 0)))
 (.block 1 (.seq (.seq (.ops [⟨.fieldAddr 4 (.t 3), some 14, none, true⟩,
 ⟨.load none (.t 14), some 15, none, false⟩,
 ⟨.len .sl (.t 15), some 16, none, false⟩,
 ⟨.bin .geq (.t 16) (.c (.int .i64 32)), some 17, none, true⟩])
 (.cond (.t 17)
 (.ops [⟨.mov (.t 0), some 18, none, true⟩,
 ⟨.call (.f 35) [(.t 18), (.c (.int .i64 3))], some 19, none, false⟩])
 (.skip)))
 (.opsD 20 [⟨.fieldAddr 4 (.t 3), some 20, none, true⟩,
 ⟨.loadOf none (.t 20) (.t 3), some 21, none, false⟩,
 ⟨.mov (.t 0), some 22, none, true⟩,
 ⟨.callNe (.f 87) [(.t 22)] [(.t 3)], some 23, none, false⟩,
 ⟨.buildSlice 5 [(.int .i64 0), (.int .i64 0), (.str []), (.int .i64 0), .nilsl] 1 [(0, (.t 23))] false, some 24, none, true⟩,
 ⟨.append 5 64 false (.t 21) (.t 24), some 25, none, false⟩,
 ⟨.fieldAddr 4 (.t 3), some 26, none, true⟩,
 ⟨.store 1 (.t 26) (.t 25), none, none, false⟩]))))))
 (.seq (.ops [⟨.load (some 5) (.t 3), some 27, none, false⟩,
 ⟨.store 5 (.t 2) (.t 27), none, none, false⟩])
 (.ret))))))
theorem st65p : stmOf Tryz.prog 65 p65p = some (s65p, [.cell 2 (some 5)], 28) := by kernel_rfl
def encW (n : Nd) (r : Nat) : List D := match n with
  | .mk k t s m l => [.int .i64 k, .int .i64 t, .str s, .int .i64 m, ownD r l.length]
def withK (h : AHeap) (n : Nd) (r : Nat) : AHeap := if n.kidsOf = [] then h else h.set r (.row 5 (n.kidsOf.length + 2) (Nd.encs n.kidsOf) false)
theorem pNode_eq {l : List Tok} {n n' : Nd} {s s' : PS} (h : pNode l n s = .ok n' s') : n' = n := by
  unfold pNode at h
  split at h
  · cases h
  · cases h; rfl
theorem wpR_no {α : Type} {b : Bool} {p q : PR α} {K : α → PS → Prop} {E : Int → Int → Prop} (hb : b = false) (h : wpR (bif b then p else q) K E) : wpR q K E := by subst hb; exact h
theorem wpR_yes {α : Type} {b : Bool} {p q : PR α} {K : α → PS → Prop} {E : Int → Int → Prop} (hb : b = true) (h : wpR (bif b then p else q) K E) : wpR p K E := by subst hb; exact h
theorem block_c (G : List Tok → PRec) (hG : ∀ l, PKeep (G l)) (hT : (tbG G).ok Tryz.prog) (l : List Tok) (hl : WOk l) (s : PS) (i1 : Nat) (ok : PSok l s) (K0 : Nd → PS → Prop) (E0 : Int → Int → Prop) (hw : wpR (blockG l (G l) s) (fun x s' => PSok l s' → K0 x s') E0) : ACalls Tryz.prog 65 [.ptr i1 1 0] (AHeap.emp.set i1 (pObj l s)) (retP encN l i1 K0 E0) := by
  refine ACalls.of_stmD hT (dc := dIn) dIn_ok (by kernel_rfl) st65p (by simp) ?_
  rw [vc_todo]
  have hp := fun (h : AHeap) (j : Nat) (B C : AObj) => push_id (id := i1) h j B C
  have w1 : IntKind.i64.wrap (s.deep + 1) = s.deep + 1 := wrap_i64 (by have := ok.d0; omega) (by have := ok.d1; omega)
  unfold blockG pDeep pIn at hw
  rw [wpR_bind] at hw
  simp (maxSteps := 1000000) only [s65p, s86p, pObj, tbG_e, tb64p_e, zzK, seval]
  intro i2 a2_1 b2_1 i3 a3_2 b3_2 a3_1 b3_1
  by_cases c : s.deep + 1 > 40
  · have g : (s.deep + 1 > 40) = True := eq_true c
    rw [if_pos c] at hw
    simp (maxSteps := 1000000) only [g, w1, hp, a2_1, b2_1, a3_2, b3_2, a3_1, b3_1, len_enc, enc_ok, enc_unnil, part_enc, take5, set5, setE, retD_ret, retD_normal, leav_nil, leav_func, finD, tbG_e, tb64p_e, zzK, seval]
    refine ⟨l, { s with deep := s.deep + 1 }, i1, 3, rfl, by simp [pObj, a2_1, b2_1, a3_2, b3_2, a3_1, b3_1], ok.at_, ?_⟩
    simp only [panS, panD, true_and]
    refine ⟨rfl, ?_⟩
    show leav dIn [] (some (stopD _ 3)) _ _
    simp only [leav_nil, finD]
    exact mid_pan (s' := { s with deep := s.deep + 1 }) (by simp [pObj, a2_1, b2_1, a3_2, b3_2, a3_1, b3_1]) hw
  · have g : (s.deep + 1 > 40) = False := eq_false c
    rw [if_neg c, wpR_ok] at hw
    have okd := deepIn ok c
    simp only [pOff, wpR_bind, wpR_ok] at hw
    simp (maxSteps := 1000000) only [g, w1, hp, a2_1, b2_1, a3_2, b3_2, a3_1, b3_1, len_enc, enc_ok, enc_unnil, part_enc, take5, set5, setE, retD_ret, retD_normal, leav_nil, leav_func, finD, tbG_e, tb64p_e, zzK, seval]
    generalize hsd : ({ s with deep := s.deep + 1 } : PS) = sd at *
    have hde : sd.deep = s.deep + 1 := by rw [← hsd]
    refine ⟨l, sd, i1, [123], rfl, hl.lo, by rw [← hsd]; simp [pObj, a2_1, b2_1, a3_2, b3_2, a3_1, b3_1], okd, wpR_mono' (fun _ s1p e1 k ok1 => ?_) (fun a e k s' => ?_) hw⟩
    case refine_2 =>
      simp only [panD, leav_func, leav_nil, List.nil_append, List.append_nil]
      refine ⟨rfl, i3, i1, l, s', rfl, by simp [a2_1, b2_1, a3_2, b3_2, a3_1, b3_1], by simp [a2_1, b2_1, a3_2, b3_2, a3_1, b3_1], ?_⟩
      simp only [finD]
      exact mid_pan (s' := { s' with deep := IntKind.i64.wrap (s'.deep - 1) }) (by simp [a2_1, b2_1, a3_2, b3_2, a3_1, b3_1]) k
    have d1 : s1p.deep = s.deep + 1 := (keeps_pMust _ _ e1).trans hde
    simp (maxSteps := 1000000) only [i_callR, hp, a2_1, b2_1, a3_2, b3_2, a3_1, b3_1, len_enc, enc_ok, enc_unnil, part_enc, take5, set5, setE, retD_ret, retD_normal, leav_nil, leav_func, finD, tbG_e, tb64p_e, zzK, seval]
    refine .inr ⟨l, s1p, i1, .mk 6 0 [] 0 [], rfl, hl.lo, (by simp [a2_1, b2_1, a3_2, b3_2, a3_1, b3_1]), ok1, wpR_mono' (fun n s2p e2 k ok2 => ?_) (fun a e k s' => ?_) k⟩
    case refine_2 =>
      simp only [panD, leav_func, leav_nil, List.nil_append, List.append_nil]
      refine ⟨rfl, i3, i1, l, s', rfl, by simp [a2_1, b2_1, a3_2, b3_2, a3_1, b3_1], by simp [a2_1, b2_1, a3_2, b3_2, a3_1, b3_1], ?_⟩
      simp only [finD]
      exact mid_pan (s' := { s' with deep := IntKind.i64.wrap (s'.deep - 1) }) (by simp [a2_1, b2_1, a3_2, b3_2, a3_1, b3_1]) k
    have d2 : s2p.deep = s.deep + 1 := (keeps_pNode _ _ e2).trans d1
    have hn := pNode_eq e2
    subst hn
    simp (maxSteps := 1000000) only [encZ, hp, a2_1, b2_1, a3_2, b3_2, a3_1, b3_1, len_enc, enc_ok, enc_unnil, part_enc, take5, set5, setE, retD_ret, retD_normal, leav_nil, leav_func, finD, tbG_e, tb64p_e, zzK, seval]
    intro i4 a4_3 b4_3 a4_2 b4_2 a4_1 b4_1
    refine run_loopD (X := Nat × Nd × Nat × PS) [⟨.func 103, [.ptr i3 1 0], []⟩] (fun z => [(0, .ptr i1 1 0), (2, .ptr i2 1 0), (3, .ptr i4 1 0)])
      (fun z => withK ((((AHeap.emp.set i1 (pObj l z.2.2.2)).set i2 (.cells [.int .i64 0, .int .i64 0, .str [], .int .i64 0, .nilsl])).set i3 (.cells [.ptr i1 1 0])).set i4 (.cells (encW z.2.1 z.2.2.1))) z.2.1 z.2.2.1) (fun z => z.1)
      (fun z => PSok l z.2.2.2 ∧ z.2.2.2.deep = s.deep + 1 ∧ wpR (blockL l (G l) z.1 z.2.1 z.2.2.2) (fun x s' => PSok l { s' with deep := s'.deep - 1 } → K0 x { s' with deep := s'.deep - 1 }) E0 ∧ (z.2.1.kidsOf ≠ [] → ¬ z.2.2.1 = i1 ∧ ¬ z.2.2.1 = i2 ∧ ¬ z.2.2.1 = i3 ∧ ¬ z.2.2.1 = i4))
      (l.length + 1, .mk 6 0 [] 0 [], 0, s2p) ⟨ok2, d2, k, fun h => absurd rfl h⟩ (by simp only [tb64p_e, zzK, seval]) (AHeap.sub_refl _) ?_
    clear hw hsd
    rintro ⟨j, n, r, s0p⟩ Q ⟨ok0, d0, hw, hr⟩ hQ
    simp only at ok0 d0 hw hr hQ ⊢
    cases j with
    | zero => exact hw.elim
    | succ j =>
    unfold blockL at hw
    rw [wpR_bind] at hw
    obtain ⟨nk, nt, ns, nm, nl⟩ := n
    simp only [Nd.kidsOf] at hw hr
    by_cases hnl : nl = []
    · subst hnl
      have hH : ∀ h : AHeap, withK h (.mk nk nt ns nm []) r = h := fun h => if_pos rfl
      rw [hH, encW, List.length_nil, ownD_zero]
      simp (maxSteps := 1000000) only [hp, a2_1, b2_1, a3_2, b3_2, a3_1, b3_1, a4_3, b4_3, a4_2, b4_2, a4_1, b4_1, len_enc, enc_ok, enc_unnil, part_enc, take5, set5, setE, retD_ret, retD_normal, leav_nil, leav_func, finD, tbG_e, tb64p_e, zzK, seval]
      refine ⟨l, s0p, i1, [125], rfl, hl.lo, (by simp [a2_1, b2_1, a3_2, b3_2, a3_1, b3_1, a4_3, b4_3, a4_2, b4_2, a4_1, b4_1]), ok0, wpR_mono' (fun b s1p e1 k ok1 => ?_) (fun a e k s' => ?_) hw⟩
      case refine_2 =>
        simp only [panD, leav_func, leav_nil, List.nil_append, List.append_nil]
        refine ⟨rfl, i3, i1, l, s', rfl, by simp [a2_1, b2_1, a3_2, b3_2, a3_1, b3_1, a4_3, b4_3, a4_2, b4_2, a4_1, b4_1], by simp [a2_1, b2_1, a3_2, b3_2, a3_1, b3_1, a4_3, b4_3, a4_2, b4_2, a4_1, b4_1], ?_⟩
        simp only [finD]
        exact mid_pan (s' := { s' with deep := IntKind.i64.wrap (s'.deep - 1) }) (by simp [a2_1, b2_1, a3_2, b3_2, a3_1, b3_1, a4_3, b4_3, a4_2, b4_2, a4_1, b4_1]) k
      have d1 : s1p.deep = s.deep + 1 := (keeps_pTake _ _ e1).trans d0
      cases b with
      | true =>
        rw [cond_true, wpR_ok] at k
        have k := k (deepOk ok ok1 d1).1
        have wd := (deepOk ok ok1 d1).2
        simp (maxSteps := 1000000) only [hp, a2_1, b2_1, a3_2, b3_2, a3_1, b3_1, a4_3, b4_3, a4_2, b4_2, a4_1, b4_1, len_enc, enc_ok, enc_unnil, part_enc, take5, set5, setE, retD_ret, retD_normal, leav_nil, leav_func, finD, tbG_e, tb64p_e, zzK, seval]
        refine ⟨rfl, i3, i1, l, s1p, rfl, (by simp [a2_1, b2_1, a3_2, b3_2, a3_1, b3_1, a4_3, b4_3, a4_2, b4_2, a4_1, b4_1]), (by simp [a2_1, b2_1, a3_2, b3_2, a3_1, b3_1, a4_3, b4_3, a4_2, b4_2, a4_1, b4_1]), ?_⟩
        rw [wd]
        simp (maxSteps := 1000000) only [hp, a2_1, b2_1, a3_2, b3_2, a3_1, b3_1, a4_3, b4_3, a4_2, b4_2, a4_1, b4_1, len_enc, enc_ok, enc_unnil, part_enc, take5, set5, setE, retD_ret, retD_normal, leav_nil, leav_func, finD, tbG_e, tb64p_e, zzK, seval]
        exact mid_ret' (x := .mk nk nt ns nm []) (s' := { s1p with deep := s1p.deep - 1 }) (by rw [encN, enc_mk, encs_nil]) (by simp [a2_1, b2_1, a3_2, b3_2, a3_1, b3_1, a4_3, b4_3, a4_2, b4_2, a4_1, b4_1]) k
      | false =>
        rw [cond_false] at k
        replace k : wpR (((G l).stmt s1p).bind fun x s => blockL l (G l) j ((Nd.mk nk nt ns nm []).addKid x) s) (fun x s' => PSok l { s' with deep := s'.deep - 1 } → K0 x { s' with deep := s'.deep - 1 }) E0 := k
        rw [wpR_bind] at k
        simp (maxSteps := 1000000) only [hp, a2_1, b2_1, a3_2, b3_2, a3_1, b3_1, a4_3, b4_3, a4_2, b4_2, a4_1, b4_1, len_enc, enc_ok, enc_unnil, part_enc, take5, set5, setE, retD_ret, retD_normal, leav_nil, leav_func, finD, tbG_e, tb64p_e, zzK, seval]
        refine ⟨l, s1p, i1, rfl, hl, (by simp [a2_1, b2_1, a3_2, b3_2, a3_1, b3_1, a4_3, b4_3, a4_2, b4_2, a4_1, b4_1]), ok1, wpR_mono' (fun x s2p e2 k ok2 => ?_) (fun a e k s' => ?_) k⟩
        case refine_2 =>
          intro σ hσ _
          simp only [panD]
          rw [hσ]
          show leav dIn [⟨.func 103, [.ptr i3 1 0], []⟩] _ _ _
          simp only [leav_func, leav_nil, List.nil_append]
          refine ⟨rfl, i3, i1, l, s', rfl, by simp [a2_1, b2_1, a3_2, b3_2, a3_1, b3_1, a4_3, b4_3, a4_2, b4_2, a4_1, b4_1], by simp [a2_1, b2_1, a3_2, b3_2, a3_1, b3_1, a4_3, b4_3, a4_2, b4_2, a4_1, b4_1], ?_⟩
          simp only [finD]
          exact mid_pan (s' := { s' with deep := IntKind.i64.wrap (s'.deep - 1) }) (by simp [a2_1, b2_1, a3_2, b3_2, a3_1, b3_1, a4_3, b4_3, a4_2, b4_2, a4_1, b4_1]) k
        have d2 : s2p.deep = s.deep + 1 := ((hG l).stmt _ x s2p e2).trans d1
        simp (maxSteps := 1000000) only [encN, hp, a2_1, b2_1, a3_2, b3_2, a3_1, b3_1, a4_3, b4_3, a4_2, b4_2, a4_1, b4_1, len_enc, enc_ok, enc_unnil, part_enc, take5, set5, setE, retD_ret, retD_normal, leav_nil, leav_func, finD, tbG_e, tb64p_e, zzK, seval]
        intro i5 a5_4 b5_4 a5_3 b5_3 a5_2 b5_2 a5_1 b5_1
        simp (maxSteps := 1000000) only [hp, a2_1, b2_1, a3_2, b3_2, a3_1, b3_1, a4_3, b4_3, a4_2, b4_2, a4_1, b4_1, a5_4, b5_4, a5_3, b5_3, a5_2, b5_2, a5_1, b5_1, len_enc, enc_ok, enc_unnil, part_enc, take5, set5, setE, retD_ret, retD_normal, leav_nil, leav_func, finD, tbG_e, tb64p_e, zzK, seval]
        refine hQ (j, .mk nk nt ns nm [x], i5, s2p) _ _ ⟨ok2, d2, k, fun _ => ⟨a5_1, a5_2, a5_3, a5_4⟩⟩ (by simp only [tb64p_e, zzK, seval]) ?_ (by simp only; omega)
        simp only [withK, Nd.kidsOf, encW, List.length_cons, List.length_nil, encs_cons, encs_nil, reduceCtorEq, if_false, ownD_pos (Nat.succ_ne_zero 0)]
        exact AHeap.sub_X (by repeat' first | with_reducible exact AHeap.subX_refl | with_reducible exact AHeap.subX_emp | refine AHeap.subX_l (by simp [a2_1, b2_1, a3_2, b3_2, a3_1, b3_1, a4_3, b4_3, a4_2, b4_2, a4_1, b4_1, a5_4, b5_4, a5_3, b5_3, a5_2, b5_2, a5_1, b5_1]) ?_ | refine AHeap.subX_r (by simp [a2_1, b2_1, a3_2, b3_2, a3_1, b3_1, a4_3, b4_3, a4_2, b4_2, a4_1, b4_1, a5_4, b5_4, a5_3, b5_3, a5_2, b5_2, a5_1, b5_1]) ?_)
    · obtain ⟨i5, rfl⟩ : ∃ q, q = r := ⟨r, rfl⟩
      obtain ⟨a5_1, a5_2, a5_3, a5_4⟩ := hr hnl
      have b5_1 : ¬ i1 = i5 := fun e => a5_1 e.symm
      have b5_2 : ¬ i2 = i5 := fun e => a5_2 e.symm
      have b5_3 : ¬ i3 = i5 := fun e => a5_3 e.symm
      have b5_4 : ¬ i4 = i5 := fun e => a5_4 e.symm
      have hH : ∀ h : AHeap, withK h (.mk nk nt ns nm nl) i5 = h.set i5 (.row 5 (nl.length + 2) (Nd.encs nl) false) := fun h => if_neg hnl
      have hl0 : nl.length ≠ 0 := fun e => hnl (List.length_eq_zero_iff.1 e)
      have tk : (Nd.encs nl).take nl.length = Nd.encs nl := List.take_of_length_le (by rw [len_encs]; omega)
      rw [hH, encW, ownD_pos hl0]
      simp (maxSteps := 1000000) only [hp, a2_1, b2_1, a3_2, b3_2, a3_1, b3_1, a4_3, b4_3, a4_2, b4_2, a4_1, b4_1, a5_4, b5_4, a5_3, b5_3, a5_2, b5_2, a5_1, b5_1, len_enc, enc_ok, enc_unnil, part_enc, take5, set5, setE, retD_ret, retD_normal, leav_nil, leav_func, finD, tbG_e, tb64p_e, zzK, seval]
      refine ⟨l, s0p, i1, [125], rfl, hl.lo, (by simp [a2_1, b2_1, a3_2, b3_2, a3_1, b3_1, a4_3, b4_3, a4_2, b4_2, a4_1, b4_1, a5_4, b5_4, a5_3, b5_3, a5_2, b5_2, a5_1, b5_1]), ok0, wpR_mono' (fun b s1p e1 k ok1 => ?_) (fun a e k s' => ?_) hw⟩
      case refine_2 =>
        simp only [panD, leav_func, leav_nil, List.nil_append, List.append_nil]
        refine ⟨rfl, i3, i1, l, s', rfl, by simp [a2_1, b2_1, a3_2, b3_2, a3_1, b3_1, a4_3, b4_3, a4_2, b4_2, a4_1, b4_1, a5_4, b5_4, a5_3, b5_3, a5_2, b5_2, a5_1, b5_1], by simp [a2_1, b2_1, a3_2, b3_2, a3_1, b3_1, a4_3, b4_3, a4_2, b4_2, a4_1, b4_1, a5_4, b5_4, a5_3, b5_3, a5_2, b5_2, a5_1, b5_1], ?_⟩
        simp only [finD]
        exact mid_pan (s' := { s' with deep := IntKind.i64.wrap (s'.deep - 1) }) (by simp [a2_1, b2_1, a3_2, b3_2, a3_1, b3_1, a4_3, b4_3, a4_2, b4_2, a4_1, b4_1, a5_4, b5_4, a5_3, b5_3, a5_2, b5_2, a5_1, b5_1]) k
      have d1 : s1p.deep = s.deep + 1 := (keeps_pTake _ _ e1).trans d0
      cases b with
      | true =>
        rw [cond_true, wpR_ok] at k
        have k := k (deepOk ok ok1 d1).1
        have wd := (deepOk ok ok1 d1).2
        simp (maxSteps := 1000000) only [hp, a2_1, b2_1, a3_2, b3_2, a3_1, b3_1, a4_3, b4_3, a4_2, b4_2, a4_1, b4_1, a5_4, b5_4, a5_3, b5_3, a5_2, b5_2, a5_1, b5_1, len_enc, enc_ok, enc_unnil, part_enc, take5, set5, setE, retD_ret, retD_normal, leav_nil, leav_func, finD, tbG_e, tb64p_e, zzK, seval]
        refine ⟨rfl, i3, i1, l, s1p, rfl, (by simp [a2_1, b2_1, a3_2, b3_2, a3_1, b3_1, a4_3, b4_3, a4_2, b4_2, a4_1, b4_1, a5_4, b5_4, a5_3, b5_3, a5_2, b5_2, a5_1, b5_1]), (by simp [a2_1, b2_1, a3_2, b3_2, a3_1, b3_1, a4_3, b4_3, a4_2, b4_2, a4_1, b4_1, a5_4, b5_4, a5_3, b5_3, a5_2, b5_2, a5_1, b5_1]), ?_⟩
        rw [wd]
        simp (maxSteps := 1000000) only [len_encs, tk, hp, a2_1, b2_1, a3_2, b3_2, a3_1, b3_1, a4_3, b4_3, a4_2, b4_2, a4_1, b4_1, a5_4, b5_4, a5_3, b5_3, a5_2, b5_2, a5_1, b5_1, len_enc, enc_ok, enc_unnil, part_enc, take5, set5, setE, retD_ret, retD_normal, leav_nil, leav_func, finD, tbG_e, tb64p_e, zzK, seval]
        exact mid_ret' (x := .mk nk nt ns nm nl) (s' := { s1p with deep := s1p.deep - 1 }) (by rw [encN, enc_mk]) (by simp [a2_1, b2_1, a3_2, b3_2, a3_1, b3_1, a4_3, b4_3, a4_2, b4_2, a4_1, b4_1, a5_4, b5_4, a5_3, b5_3, a5_2, b5_2, a5_1, b5_1]) k
      | false =>
        rw [cond_false] at k
        by_cases c3p : nl.length ≥ 32
        · have g3 : ((nl.length : Int) ≥ 32) = True := eq_true (by omega)
          have k : wpR (pFail l 3 s1p : PR Nd) (fun x s' => PSok l { s' with deep := s'.deep - 1 } → K0 x { s' with deep := s'.deep - 1 }) E0 := by
            exact wpR_yes (by simpa using c3p) k
          simp (maxSteps := 1000000) only [g3, len_encs, hp, a2_1, b2_1, a3_2, b3_2, a3_1, b3_1, a4_3, b4_3, a4_2, b4_2, a4_1, b4_1, a5_4, b5_4, a5_3, b5_3, a5_2, b5_2, a5_1, b5_1, len_enc, enc_ok, enc_unnil, part_enc, take5, set5, setE, retD_ret, retD_normal, leav_nil, leav_func, finD, tbG_e, tb64p_e, zzK, seval]
          intro _
          refine ⟨l, s1p, i1, 3, rfl, (by simp [a2_1, b2_1, a3_2, b3_2, a3_1, b3_1, a4_3, b4_3, a4_2, b4_2, a4_1, b4_1, a5_4, b5_4, a5_3, b5_3, a5_2, b5_2, a5_1, b5_1]), ok1.at_, ?_⟩
          simp only [panD]
          show leav dIn [⟨.func 103, [.ptr i3 1 0], []⟩] _ _ _
          simp only [leav_func, leav_nil, List.nil_append]
          refine ⟨rfl, i3, i1, l, s1p, rfl, (by simp [a2_1, b2_1, a3_2, b3_2, a3_1, b3_1, a4_3, b4_3, a4_2, b4_2, a4_1, b4_1, a5_4, b5_4, a5_3, b5_3, a5_2, b5_2, a5_1, b5_1]), (by simp [a2_1, b2_1, a3_2, b3_2, a3_1, b3_1, a4_3, b4_3, a4_2, b4_2, a4_1, b4_1, a5_4, b5_4, a5_3, b5_3, a5_2, b5_2, a5_1, b5_1]), ?_⟩
          simp only [finD]
          exact mid_pan (s' := { s1p with deep := IntKind.i64.wrap (s1p.deep - 1) }) (by simp [a2_1, b2_1, a3_2, b3_2, a3_1, b3_1, a4_3, b4_3, a4_2, b4_2, a4_1, b4_1, a5_4, b5_4, a5_3, b5_3, a5_2, b5_2, a5_1, b5_1]) k
        · have g3 : ((nl.length : Int) ≥ 32) = False := eq_false (by omega)
          have k : wpR (((G l).stmt s1p).bind fun x s => blockL l (G l) j ((Nd.mk nk nt ns nm nl).addKid x) s) (fun x s' => PSok l { s' with deep := s'.deep - 1 } → K0 x { s' with deep := s'.deep - 1 }) E0 := by
            exact wpR_no (by simpa using c3p) k
          rw [wpR_bind] at k
          simp (maxSteps := 1000000) only [g3, len_encs, hp, a2_1, b2_1, a3_2, b3_2, a3_1, b3_1, a4_3, b4_3, a4_2, b4_2, a4_1, b4_1, a5_4, b5_4, a5_3, b5_3, a5_2, b5_2, a5_1, b5_1, len_enc, enc_ok, enc_unnil, part_enc, take5, set5, setE, retD_ret, retD_normal, leav_nil, leav_func, finD, tbG_e, tb64p_e, zzK, seval]
          intro _
          refine ⟨l, s1p, i1, rfl, hl, (by simp [a2_1, b2_1, a3_2, b3_2, a3_1, b3_1, a4_3, b4_3, a4_2, b4_2, a4_1, b4_1, a5_4, b5_4, a5_3, b5_3, a5_2, b5_2, a5_1, b5_1]), ok1, wpR_mono' (fun x s2p e2 k ok2 => ?_) (fun a e k s' => ?_) k⟩
          case refine_2 =>
            intro σ hσ _
            simp only [panD]
            rw [hσ]
            show leav dIn [⟨.func 103, [.ptr i3 1 0], []⟩] _ _ _
            simp only [leav_func, leav_nil, List.nil_append]
            refine ⟨rfl, i3, i1, l, s', rfl, by simp [a2_1, b2_1, a3_2, b3_2, a3_1, b3_1, a4_3, b4_3, a4_2, b4_2, a4_1, b4_1, a5_4, b5_4, a5_3, b5_3, a5_2, b5_2, a5_1, b5_1], by simp [a2_1, b2_1, a3_2, b3_2, a3_1, b3_1, a4_3, b4_3, a4_2, b4_2, a4_1, b4_1, a5_4, b5_4, a5_3, b5_3, a5_2, b5_2, a5_1, b5_1], ?_⟩
            simp only [finD]
            exact mid_pan (s' := { s' with deep := IntKind.i64.wrap (s'.deep - 1) }) (by simp [a2_1, b2_1, a3_2, b3_2, a3_1, b3_1, a4_3, b4_3, a4_2, b4_2, a4_1, b4_1, a5_4, b5_4, a5_3, b5_3, a5_2, b5_2, a5_1, b5_1]) k
          have d2 : s2p.deep = s.deep + 1 := ((hG l).stmt _ x s2p e2).trans d1
          simp (maxSteps := 1000000) only [encN, len_encs, hp, a2_1, b2_1, a3_2, b3_2, a3_1, b3_1, a4_3, b4_3, a4_2, b4_2, a4_1, b4_1, a5_4, b5_4, a5_3, b5_3, a5_2, b5_2, a5_1, b5_1, len_enc, enc_ok, enc_unnil, part_enc, take5, set5, setE, retD_ret, retD_normal, leav_nil, leav_func, finD, tbG_e, tb64p_e, zzK, seval]
          refine ⟨by omega, hQ (j, .mk nk nt ns nm (nl ++ [x]), i5, s2p) _ _ ⟨ok2, d2, k, fun _ => ⟨a5_1, a5_2, a5_3, a5_4⟩⟩ (by simp only [tb64p_e, zzK, seval]) ?_ (by simp only; omega)⟩
          have hne : nl ++ [x] ≠ [] := by simp
          simp only [withK, Nd.kidsOf, encW, List.length_append, List.length_cons, List.length_nil, hne, if_false, ← encs_snoc, ownD_pos (show nl.length + (0 + 1) ≠ 0 by omega)]
          rw [show nl.length + 2 + 1 = nl.length + (0 + 1) + 2 by omega]
          exact AHeap.sub_X (by repeat' first | with_reducible exact AHeap.subX_refl | with_reducible exact AHeap.subX_emp | refine AHeap.subX_l (by simp [a2_1, b2_1, a3_2, b3_2, a3_1, b3_1, a4_3, b4_3, a4_2, b4_2, a4_1, b4_1, a5_4, b5_4, a5_3, b5_3, a5_2, b5_2, a5_1, b5_1]) ?_ | refine AHeap.subX_r (by simp [a2_1, b2_1, a3_2, b3_2, a3_1, b3_1, a4_3, b4_3, a4_2, b4_2, a4_1, b4_1, a5_4, b5_4, a5_3, b5_3, a5_2, b5_2, a5_1, b5_1]) ?_)
end
end Go.Proofs.YtpagdhbmbnoddaaGreatDoor.Zz
namespace Go.Proofs.YtpagdhbmbnoddaaGreatDoor.Zz
noncomputable section
def p107p : Plan := ⟨⟨[(2, 3)], [(1, 1), (2, 3), (3, 1), (4, 1), (6, 1), (8, 1), (9, 3)], [], [((9, 3), [(.t 5)])], [((9, 1), (.t 5))], []⟩, [(9, [0, 1, 2, 3, 4, 5, 6, 7])], [], false⟩
def s107p : Stm :=
 .seq (.ops [⟨.alloc [(.int .i64 0), (.int .i64 0), (.str []), (.int .i64 0), .nilsl], some 4, none, false⟩])
 (.seq (.seq (.ops [⟨.mov (.t 0), some 6, none, true⟩,
 ⟨.call (.f 86) [(.t 6)], some 7, none, false⟩])
 (.defer (.t 7) []))
 (.seq (.ops [⟨.mov (.t 0), some 8, none, true⟩,
 ⟨.mov (.t 1), some 9, none, true⟩,
 ⟨.build [(.int .i64 0), (.int .i64 0), (.str []), (.int .i64 0), .nilsl] [(0, 1, (.c (.int .i64 24))), (2, 1, (.t 9))], some 10, none, true⟩,
 ⟨.callR (.f 32) [(.t 8), (.t 10)], some 11, none, false⟩,
 ⟨.alloc [(.int .i64 0), (.int .i64 0), (.str []), (.int .i64 0), .nilsl], some 5, none, false⟩,
 ⟨.store 5 (.t 5) (.t 11), none, none, false⟩])
 (.seq (.ops [⟨.mov (.t 0), some 12, none, true⟩,
 ⟨.call (.f 63) [(.t 12), (.c (.str [40]))], some 13, none, false⟩])
 (.seq (.block 0 (.loop (.seq (.seq (.ops [⟨.mov (.t 0), some 14, none, true⟩,
 ⟨.call (.f 60) [(.t 14), (.c (.str [41]))], some 15, none, false⟩,
 ⟨.un .not (.t 15), some 16, none, true⟩])
 (.cond (.t 16)
 (.skip)
 (.exit 0)))
 (.block 1 (.seq (.seq (.ops [⟨.fieldAddr 4 (.t 5), some 17, none, true⟩,
 ⟨.load none (.t 17), some 18, none, false⟩,
 ⟨.len .sl (.t 18), some 19, none, false⟩,
 ⟨.bin .gtr (.t 19) (.c (.int .i64 0)), some 20, none, true⟩])
 (.cond (.t 20)
 (.ops [⟨.mov (.t 0), some 21, none, true⟩,
 ⟨.call (.f 63) [(.t 21), (.c (.str [44]))], some 22, none, false⟩])
 (.skip)))
 (.seq (.seq (.ops [⟨.fieldAddr 4 (.t 5), some 23, none, true⟩,
 ⟨.load none (.t 23), some 24, none, false⟩,
 ⟨.len .sl (.t 24), some 25, none, false⟩,
 ⟨.bin .geq (.t 25) (.c (.int .i64 6)), some 26, none, true⟩])
 (.cond (.t 26)
 (.ops [⟨.mov (.t 0), some 27, none, true⟩,
 ⟨.call (.f 35) [(.t 27), (.c (.int .i64 3))], some 28, none, false⟩])
 (.skip)))
 (.opsD 29 [⟨.fieldAddr 4 (.t 5), some 29, none, true⟩,
 ⟨.loadOf none (.t 29) (.t 5), some 30, none, false⟩,
 ⟨.mov (.t 0), some 31, none, true⟩,
 ⟨.callNe (.f 105) [(.t 31), (.c (.int .i64 0))] [(.t 5)], some 32, none, false⟩,
 ⟨.buildSlice 5 [(.int .i64 0), (.int .i64 0), (.str []), (.int .i64 0), .nilsl] 1 [(0, (.t 32))] false, some 33, none, true⟩,
 ⟨.append 5 64 false (.t 30) (.t 33), some 34, none, false⟩,
 ⟨.fieldAddr 4 (.t 5), some 35, none, true⟩,
 ⟨.store 1 (.t 35) (.t 34), none, none, false⟩])))))))
 (.seq (.ops [⟨.load (some 5) (.t 5), some 36, none, false⟩,
 ⟨.store 5 (.t 4) (.t 36), none, none, false⟩])
 (.ret))))))
theorem st107p : stmOf Tryz.prog 107 p107p = some (s107p, [.cell 4 (some 5)], 37) := by kernel_rfl
set_option maxHeartbeats 1000000 in
theorem call_c (G : List Tok → PRec) (hG : ∀ l, PKeep (G l)) (hT : (tbG G).ok Tryz.prog) (l : List Tok) (hl : WOk l) (s : PS) (i1 : Nat) (x : List UInt8) (ok : PSok l s) (K0 : Nd → PS → Prop) (E0 : Int → Int → Prop) (hw : wpR (callG l (G l) x s) (fun x s' => PSok l s' → K0 x s') E0) : ACalls Tryz.prog 107 [.ptr i1 1 0, .str x] (AHeap.emp.set i1 (pObj l s)) (retP encN l i1 K0 E0) := by
  refine ACalls.of_stmD hT (dc := dIn) dIn_ok (by kernel_rfl) st107p (by simp) ?_
  rw [vc_todo]
  have hp := fun (h : AHeap) (j : Nat) (B C : AObj) => push_id (id := i1) h j B C
  have w1 : IntKind.i64.wrap (s.deep + 1) = s.deep + 1 := wrap_i64 (by have := ok.d0; omega) (by have := ok.d1; omega)
  unfold callG pDeep pIn at hw
  rw [wpR_bind] at hw
  simp (maxSteps := 1000000) only [s107p, s86p, pObj, tbG_e, tb64p_e, zzK, seval]
  intro i2 a2_1 b2_1 i3 a3_2 b3_2 a3_1 b3_1
  by_cases c : s.deep + 1 > 40
  · have g : (s.deep + 1 > 40) = True := eq_true c
    rw [if_pos c] at hw
    simp (maxSteps := 1000000) only [g, w1, hp, a2_1, b2_1, a3_2, b3_2, a3_1, b3_1, len_enc, enc_ok, enc_unnil, part_enc, take5, set5, setE, retD_ret, retD_normal, leav_nil, leav_func, finD, tbG_e, tb64p_e, zzK, seval]
    refine ⟨l, { s with deep := s.deep + 1 }, i1, 3, rfl, by simp [pObj, a2_1, b2_1, a3_2, b3_2, a3_1, b3_1], ok.at_, ?_⟩
    simp only [panS, panD, true_and]
    refine ⟨rfl, ?_⟩
    show leav dIn [] (some (stopD _ 3)) _ _
    simp only [leav_nil, finD]
    exact mid_pan (s' := { s with deep := s.deep + 1 }) (by simp [pObj, a2_1, b2_1, a3_2, b3_2, a3_1, b3_1]) hw
  · have g : (s.deep + 1 > 40) = False := eq_false c
    rw [if_neg c, wpR_ok] at hw
    have okd := deepIn ok c
    simp only [pOff, wpR_bind, wpR_ok] at hw
    simp (maxSteps := 1000000) only [g, w1, i_callR, encZ, hp, a2_1, b2_1, a3_2, b3_2, a3_1, b3_1, len_enc, enc_ok, enc_unnil, part_enc, take5, set5, setE, retD_ret, retD_normal, leav_nil, leav_func, finD, tbG_e, tb64p_e, zzK, seval]
    generalize hsd : ({ s with deep := s.deep + 1 } : PS) = sd at *
    have hde : sd.deep = s.deep + 1 := by rw [← hsd]
    refine .inr ⟨l, sd, i1, .mk 24 0 x 0 [], rfl, hl.lo, by rw [← hsd]; simp [pObj, a2_1, b2_1, a3_2, b3_2, a3_1, b3_1], okd, wpR_mono' (fun n s1p e1 k ok1 => ?_) (fun a e k s' => ?_) hw⟩
    case refine_2 =>
      simp only [panD, leav_func, leav_nil, List.nil_append, List.append_nil]
      refine ⟨rfl, i3, i1, l, s', rfl, by simp [a2_1, b2_1, a3_2, b3_2, a3_1, b3_1], by simp [a2_1, b2_1, a3_2, b3_2, a3_1, b3_1], ?_⟩
      simp only [finD]
      exact mid_pan (s' := { s' with deep := IntKind.i64.wrap (s'.deep - 1) }) (by simp [a2_1, b2_1, a3_2, b3_2, a3_1, b3_1]) k
    have d1 : s1p.deep = s.deep + 1 := (keeps_pNode _ _ e1).trans hde
    have hn := pNode_eq e1
    subst hn
    simp (maxSteps := 1000000) only [encZ, hp, a2_1, b2_1, a3_2, b3_2, a3_1, b3_1, len_enc, enc_ok, enc_unnil, part_enc, take5, set5, setE, retD_ret, retD_normal, leav_nil, leav_func, finD, tbG_e, tb64p_e, zzK, seval]
    intro i4 a4_3 b4_3 a4_2 b4_2 a4_1 b4_1
    refine ⟨l, s1p, i1, [40], rfl, hl.lo, (by simp [a2_1, b2_1, a3_2, b3_2, a3_1, b3_1, a4_3, b4_3, a4_2, b4_2, a4_1, b4_1]), ok1, wpR_mono' (fun _ s2p e2 k ok2 => ?_) (fun a e k s' => ?_) k⟩
    case refine_2 =>
      simp only [panD, leav_func, leav_nil, List.nil_append, List.append_nil]
      refine ⟨rfl, i3, i1, l, s', rfl, by simp [a2_1, b2_1, a3_2, b3_2, a3_1, b3_1, a4_3, b4_3, a4_2, b4_2, a4_1, b4_1], by simp [a2_1, b2_1, a3_2, b3_2, a3_1, b3_1, a4_3, b4_3, a4_2, b4_2, a4_1, b4_1], ?_⟩
      simp only [finD]
      exact mid_pan (s' := { s' with deep := IntKind.i64.wrap (s'.deep - 1) }) (by simp [a2_1, b2_1, a3_2, b3_2, a3_1, b3_1, a4_3, b4_3, a4_2, b4_2, a4_1, b4_1]) k
    have d2 : s2p.deep = s.deep + 1 := (keeps_pMust _ _ e2).trans d1
    simp (maxSteps := 1000000) only [hp, a2_1, b2_1, a3_2, b3_2, a3_1, b3_1, a4_3, b4_3, a4_2, b4_2, a4_1, b4_1, len_enc, enc_ok, enc_unnil, part_enc, take5, set5, setE, retD_ret, retD_normal, leav_nil, leav_func, finD, tbG_e, tb64p_e, zzK, seval]
    refine run_loopD (X := Nat × Nd × Nat × PS) [⟨.func 103, [.ptr i3 1 0], []⟩] (fun z => [(0, .ptr i1 1 0), (4, .ptr i2 1 0), (5, .ptr i4 1 0)])
      (fun z => withK ((((AHeap.emp.set i1 (pObj l z.2.2.2)).set i2 (.cells [.int .i64 0, .int .i64 0, .str [], .int .i64 0, .nilsl])).set i3 (.cells [.ptr i1 1 0])).set i4 (.cells (encW z.2.1 z.2.2.1))) z.2.1 z.2.2.1) (fun z => z.1)
      (fun z => PSok l z.2.2.2 ∧ z.2.2.2.deep = s.deep + 1 ∧ wpR (callL l (G l) z.1 z.2.1 z.2.2.2) (fun x s' => PSok l { s' with deep := s'.deep - 1 } → K0 x { s' with deep := s'.deep - 1 }) E0 ∧ (z.2.1.kidsOf ≠ [] → ¬ z.2.2.1 = i1 ∧ ¬ z.2.2.1 = i2 ∧ ¬ z.2.2.1 = i3 ∧ ¬ z.2.2.1 = i4))
      (l.length + 1, .mk 24 0 x 0 [], 0, s2p) ⟨ok2, d2, k, fun h => absurd rfl h⟩ (by simp only [tb64p_e, zzK, seval]) (AHeap.sub_refl _) ?_
    clear hw hsd
    rintro ⟨j, n, r, s0p⟩ Q ⟨ok0, d0, hw, hr⟩ hQ
    simp only at ok0 d0 hw hr hQ ⊢
    cases j with
    | zero => exact hw.elim
    | succ j =>
    unfold callL at hw
    rw [wpR_bind] at hw
    obtain ⟨nk, nt, ns, nm, nl⟩ := n
    simp only [Nd.kidsOf] at hw hr
    by_cases hnl : nl = []
    · subst hnl
      have hH : ∀ h : AHeap, withK h (.mk nk nt ns nm []) r = h := fun h => if_pos rfl
      rw [hH, encW, List.length_nil, ownD_zero]
      simp (maxSteps := 1000000) only [hp, a2_1, b2_1, a3_2, b3_2, a3_1, b3_1, a4_3, b4_3, a4_2, b4_2, a4_1, b4_1, len_enc, enc_ok, enc_unnil, part_enc, take5, set5, setE, retD_ret, retD_normal, leav_nil, leav_func, finD, tbG_e, tb64p_e, zzK, seval]
      refine ⟨l, s0p, i1, [41], rfl, hl.lo, (by simp [a2_1, b2_1, a3_2, b3_2, a3_1, b3_1, a4_3, b4_3, a4_2, b4_2, a4_1, b4_1]), ok0, wpR_mono' (fun b s1p e1 k ok1 => ?_) (fun a e k s' => ?_) hw⟩
      case refine_2 =>
        simp only [panD, leav_func, leav_nil, List.nil_append, List.append_nil]
        refine ⟨rfl, i3, i1, l, s', rfl, by simp [a2_1, b2_1, a3_2, b3_2, a3_1, b3_1, a4_3, b4_3, a4_2, b4_2, a4_1, b4_1], by simp [a2_1, b2_1, a3_2, b3_2, a3_1, b3_1, a4_3, b4_3, a4_2, b4_2, a4_1, b4_1], ?_⟩
        simp only [finD]
        exact mid_pan (s' := { s' with deep := IntKind.i64.wrap (s'.deep - 1) }) (by simp [a2_1, b2_1, a3_2, b3_2, a3_1, b3_1, a4_3, b4_3, a4_2, b4_2, a4_1, b4_1]) k
      have d1 : s1p.deep = s.deep + 1 := (keeps_pTake _ _ e1).trans d0
      cases b with
      | true =>
        rw [cond_true, wpR_ok] at k
        have k := k (deepOk ok ok1 d1).1
        have wd := (deepOk ok ok1 d1).2
        simp (maxSteps := 1000000) only [hp, a2_1, b2_1, a3_2, b3_2, a3_1, b3_1, a4_3, b4_3, a4_2, b4_2, a4_1, b4_1, len_enc, enc_ok, enc_unnil, part_enc, take5, set5, setE, retD_ret, retD_normal, leav_nil, leav_func, finD, tbG_e, tb64p_e, zzK, seval]
        refine ⟨rfl, i3, i1, l, s1p, rfl, (by simp [a2_1, b2_1, a3_2, b3_2, a3_1, b3_1, a4_3, b4_3, a4_2, b4_2, a4_1, b4_1]), (by simp [a2_1, b2_1, a3_2, b3_2, a3_1, b3_1, a4_3, b4_3, a4_2, b4_2, a4_1, b4_1]), ?_⟩
        rw [wd]
        simp (maxSteps := 1000000) only [hp, a2_1, b2_1, a3_2, b3_2, a3_1, b3_1, a4_3, b4_3, a4_2, b4_2, a4_1, b4_1, len_enc, enc_ok, enc_unnil, part_enc, take5, set5, setE, retD_ret, retD_normal, leav_nil, leav_func, finD, tbG_e, tb64p_e, zzK, seval]
        exact mid_ret' (x := .mk nk nt ns nm []) (s' := { s1p with deep := s1p.deep - 1 }) (by rw [encN, enc_mk, encs_nil]) (by simp [a2_1, b2_1, a3_2, b3_2, a3_1, b3_1, a4_3, b4_3, a4_2, b4_2, a4_1, b4_1]) k
      | false =>
        rw [cond_false] at k
        replace k : wpR (((G l).expr 0 s1p).bind fun x s => callL l (G l) j ((Nd.mk nk nt ns nm []).addKid x) s) (fun x s' => PSok l { s' with deep := s'.deep - 1 } → K0 x { s' with deep := s'.deep - 1 }) E0 := k
        rw [wpR_bind] at k
        simp (maxSteps := 1000000) only [hp, a2_1, b2_1, a3_2, b3_2, a3_1, b3_1, a4_3, b4_3, a4_2, b4_2, a4_1, b4_1, len_enc, enc_ok, enc_unnil, part_enc, take5, set5, setE, retD_ret, retD_normal, leav_nil, leav_func, finD, tbG_e, tb64p_e, zzK, seval]
        refine ⟨l, s1p, i1, 0, rfl, hl, (by simp [a2_1, b2_1, a3_2, b3_2, a3_1, b3_1, a4_3, b4_3, a4_2, b4_2, a4_1, b4_1]), ok1, wpR_mono' (fun y s2p e2 k ok2 => ?_) (fun a e k s' => ?_) k⟩
        case refine_2 =>
          intro σ hσ _
          simp only [panD]
          rw [hσ]
          show leav dIn [⟨.func 103, [.ptr i3 1 0], []⟩] _ _ _
          simp only [leav_func, leav_nil, List.nil_append]
          refine ⟨rfl, i3, i1, l, s', rfl, by simp [a2_1, b2_1, a3_2, b3_2, a3_1, b3_1, a4_3, b4_3, a4_2, b4_2, a4_1, b4_1], by simp [a2_1, b2_1, a3_2, b3_2, a3_1, b3_1, a4_3, b4_3, a4_2, b4_2, a4_1, b4_1], ?_⟩
          simp only [finD]
          exact mid_pan (s' := { s' with deep := IntKind.i64.wrap (s'.deep - 1) }) (by simp [a2_1, b2_1, a3_2, b3_2, a3_1, b3_1, a4_3, b4_3, a4_2, b4_2, a4_1, b4_1]) k
        have d2 : s2p.deep = s.deep + 1 := ((hG l).expr _ _ y s2p e2).trans d1
        simp (maxSteps := 1000000) only [encN, hp, a2_1, b2_1, a3_2, b3_2, a3_1, b3_1, a4_3, b4_3, a4_2, b4_2, a4_1, b4_1, len_enc, enc_ok, enc_unnil, part_enc, take5, set5, setE, retD_ret, retD_normal, leav_nil, leav_func, finD, tbG_e, tb64p_e, zzK, seval]
        intro i5 a5_4 b5_4 a5_3 b5_3 a5_2 b5_2 a5_1 b5_1
        simp (maxSteps := 1000000) only [hp, a2_1, b2_1, a3_2, b3_2, a3_1, b3_1, a4_3, b4_3, a4_2, b4_2, a4_1, b4_1, a5_4, b5_4, a5_3, b5_3, a5_2, b5_2, a5_1, b5_1, len_enc, enc_ok, enc_unnil, part_enc, take5, set5, setE, retD_ret, retD_normal, leav_nil, leav_func, finD, tbG_e, tb64p_e, zzK, seval]
        refine hQ (j, .mk nk nt ns nm [y], i5, s2p) _ _ ⟨ok2, d2, k, fun _ => ⟨a5_1, a5_2, a5_3, a5_4⟩⟩ (by simp only [tb64p_e, zzK, seval]) ?_ (by simp only; omega)
        simp only [withK, Nd.kidsOf, encW, List.length_cons, List.length_nil, encs_cons, encs_nil, reduceCtorEq, if_false, ownD_pos (Nat.succ_ne_zero 0)]
        exact AHeap.sub_X (by repeat' first | with_reducible exact AHeap.subX_refl | with_reducible exact AHeap.subX_emp | refine AHeap.subX_l (by simp [a2_1, b2_1, a3_2, b3_2, a3_1, b3_1, a4_3, b4_3, a4_2, b4_2, a4_1, b4_1, a5_4, b5_4, a5_3, b5_3, a5_2, b5_2, a5_1, b5_1]) ?_ | refine AHeap.subX_r (by simp [a2_1, b2_1, a3_2, b3_2, a3_1, b3_1, a4_3, b4_3, a4_2, b4_2, a4_1, b4_1, a5_4, b5_4, a5_3, b5_3, a5_2, b5_2, a5_1, b5_1]) ?_)
    · obtain ⟨i5, rfl⟩ : ∃ q, q = r := ⟨r, rfl⟩
      obtain ⟨a5_1, a5_2, a5_3, a5_4⟩ := hr hnl
      have b5_1 : ¬ i1 = i5 := fun e => a5_1 e.symm
      have b5_2 : ¬ i2 = i5 := fun e => a5_2 e.symm
      have b5_3 : ¬ i3 = i5 := fun e => a5_3 e.symm
      have b5_4 : ¬ i4 = i5 := fun e => a5_4 e.symm
      have hH : ∀ h : AHeap, withK h (.mk nk nt ns nm nl) i5 = h.set i5 (.row 5 (nl.length + 2) (Nd.encs nl) false) := fun h => if_neg hnl
      have hl0 : nl.length ≠ 0 := fun e => hnl (List.length_eq_zero_iff.1 e)
      have tk : (Nd.encs nl).take nl.length = Nd.encs nl := List.take_of_length_le (by rw [len_encs]; omega)
      rw [hH, encW, ownD_pos hl0]
      simp (maxSteps := 1000000) only [hp, a2_1, b2_1, a3_2, b3_2, a3_1, b3_1, a4_3, b4_3, a4_2, b4_2, a4_1, b4_1, a5_4, b5_4, a5_3, b5_3, a5_2, b5_2, a5_1, b5_1, len_enc, enc_ok, enc_unnil, part_enc, take5, set5, setE, retD_ret, retD_normal, leav_nil, leav_func, finD, tbG_e, tb64p_e, zzK, seval]
      refine ⟨l, s0p, i1, [41], rfl, hl.lo, (by simp [a2_1, b2_1, a3_2, b3_2, a3_1, b3_1, a4_3, b4_3, a4_2, b4_2, a4_1, b4_1, a5_4, b5_4, a5_3, b5_3, a5_2, b5_2, a5_1, b5_1]), ok0, wpR_mono' (fun b s1p e1 k ok1 => ?_) (fun a e k s' => ?_) hw⟩
      case refine_2 =>
        simp only [panD, leav_func, leav_nil, List.nil_append, List.append_nil]
        refine ⟨rfl, i3, i1, l, s', rfl, by simp [a2_1, b2_1, a3_2, b3_2, a3_1, b3_1, a4_3, b4_3, a4_2, b4_2, a4_1, b4_1, a5_4, b5_4, a5_3, b5_3, a5_2, b5_2, a5_1, b5_1], by simp [a2_1, b2_1, a3_2, b3_2, a3_1, b3_1, a4_3, b4_3, a4_2, b4_2, a4_1, b4_1, a5_4, b5_4, a5_3, b5_3, a5_2, b5_2, a5_1, b5_1], ?_⟩
        simp only [finD]
        exact mid_pan (s' := { s' with deep := IntKind.i64.wrap (s'.deep - 1) }) (by simp [a2_1, b2_1, a3_2, b3_2, a3_1, b3_1, a4_3, b4_3, a4_2, b4_2, a4_1, b4_1, a5_4, b5_4, a5_3, b5_3, a5_2, b5_2, a5_1, b5_1]) k
      have d1 : s1p.deep = s.deep + 1 := (keeps_pTake _ _ e1).trans d0
      cases b with
      | true =>
        rw [cond_true, wpR_ok] at k
        have k := k (deepOk ok ok1 d1).1
        have wd := (deepOk ok ok1 d1).2
        simp (maxSteps := 1000000) only [hp, a2_1, b2_1, a3_2, b3_2, a3_1, b3_1, a4_3, b4_3, a4_2, b4_2, a4_1, b4_1, a5_4, b5_4, a5_3, b5_3, a5_2, b5_2, a5_1, b5_1, len_enc, enc_ok, enc_unnil, part_enc, take5, set5, setE, retD_ret, retD_normal, leav_nil, leav_func, finD, tbG_e, tb64p_e, zzK, seval]
        refine ⟨rfl, i3, i1, l, s1p, rfl, (by simp [a2_1, b2_1, a3_2, b3_2, a3_1, b3_1, a4_3, b4_3, a4_2, b4_2, a4_1, b4_1, a5_4, b5_4, a5_3, b5_3, a5_2, b5_2, a5_1, b5_1]), (by simp [a2_1, b2_1, a3_2, b3_2, a3_1, b3_1, a4_3, b4_3, a4_2, b4_2, a4_1, b4_1, a5_4, b5_4, a5_3, b5_3, a5_2, b5_2, a5_1, b5_1]), ?_⟩
        rw [wd]
        simp (maxSteps := 1000000) only [len_encs, tk, hp, a2_1, b2_1, a3_2, b3_2, a3_1, b3_1, a4_3, b4_3, a4_2, b4_2, a4_1, b4_1, a5_4, b5_4, a5_3, b5_3, a5_2, b5_2, a5_1, b5_1, len_enc, enc_ok, enc_unnil, part_enc, take5, set5, setE, retD_ret, retD_normal, leav_nil, leav_func, finD, tbG_e, tb64p_e, zzK, seval]
        exact mid_ret' (x := .mk nk nt ns nm nl) (s' := { s1p with deep := s1p.deep - 1 }) (by rw [encN, enc_mk]) (by simp [a2_1, b2_1, a3_2, b3_2, a3_1, b3_1, a4_3, b4_3, a4_2, b4_2, a4_1, b4_1, a5_4, b5_4, a5_3, b5_3, a5_2, b5_2, a5_1, b5_1]) k
      | false =>
        rw [cond_false, wpR_bind] at k
        have g0 : ((nl.length : Int) > 0) = True := eq_true (by omega)
        replace k := wpR_yes (p := pMust l [44] s1p) (by simp; omega) k
        simp (maxSteps := 1000000) only [g0, len_encs, hp, a2_1, b2_1, a3_2, b3_2, a3_1, b3_1, a4_3, b4_3, a4_2, b4_2, a4_1, b4_1, a5_4, b5_4, a5_3, b5_3, a5_2, b5_2, a5_1, b5_1, len_enc, enc_ok, enc_unnil, part_enc, take5, set5, setE, retD_ret, retD_normal, leav_nil, leav_func, finD, tbG_e, tb64p_e, zzK, seval]
        intro _
        refine ⟨l, s1p, i1, [44], rfl, hl.lo, (by simp [a2_1, b2_1, a3_2, b3_2, a3_1, b3_1, a4_3, b4_3, a4_2, b4_2, a4_1, b4_1, a5_4, b5_4, a5_3, b5_3, a5_2, b5_2, a5_1, b5_1]), ok1, wpR_mono' (fun _ s2p e2 k ok2 => ?_) (fun a e k s' => ?_) k⟩
        case refine_2 =>
          simp only [panD, leav_func, leav_nil, List.nil_append, List.append_nil]
          refine ⟨rfl, i3, i1, l, s', rfl, by simp [a2_1, b2_1, a3_2, b3_2, a3_1, b3_1, a4_3, b4_3, a4_2, b4_2, a4_1, b4_1, a5_4, b5_4, a5_3, b5_3, a5_2, b5_2, a5_1, b5_1], by simp [a2_1, b2_1, a3_2, b3_2, a3_1, b3_1, a4_3, b4_3, a4_2, b4_2, a4_1, b4_1, a5_4, b5_4, a5_3, b5_3, a5_2, b5_2, a5_1, b5_1], ?_⟩
          simp only [finD]
          exact mid_pan (s' := { s' with deep := IntKind.i64.wrap (s'.deep - 1) }) (by simp [a2_1, b2_1, a3_2, b3_2, a3_1, b3_1, a4_3, b4_3, a4_2, b4_2, a4_1, b4_1, a5_4, b5_4, a5_3, b5_3, a5_2, b5_2, a5_1, b5_1]) k
        have d2 : s2p.deep = s.deep + 1 := (keeps_pMust _ _ e2).trans d1
        by_cases c3p : nl.length ≥ 6
        · have g3 : ((nl.length : Int) ≥ 6) = True := eq_true (by omega)
          replace k := wpR_yes (p := pFail l 3 s2p) (by simpa [Nd.kidsOf] using c3p) k
          simp (maxSteps := 1000000) only [g3, len_encs, hp, a2_1, b2_1, a3_2, b3_2, a3_1, b3_1, a4_3, b4_3, a4_2, b4_2, a4_1, b4_1, a5_4, b5_4, a5_3, b5_3, a5_2, b5_2, a5_1, b5_1, len_enc, enc_ok, enc_unnil, part_enc, take5, set5, setE, retD_ret, retD_normal, leav_nil, leav_func, finD, tbG_e, tb64p_e, zzK, seval]
          intro _
          refine ⟨l, s2p, i1, 3, rfl, (by simp [a2_1, b2_1, a3_2, b3_2, a3_1, b3_1, a4_3, b4_3, a4_2, b4_2, a4_1, b4_1, a5_4, b5_4, a5_3, b5_3, a5_2, b5_2, a5_1, b5_1]), ok2.at_, ?_⟩
          simp only [panD]
          show leav dIn [⟨.func 103, [.ptr i3 1 0], []⟩] _ _ _
          simp only [leav_func, leav_nil, List.nil_append]
          refine ⟨rfl, i3, i1, l, s2p, rfl, (by simp [a2_1, b2_1, a3_2, b3_2, a3_1, b3_1, a4_3, b4_3, a4_2, b4_2, a4_1, b4_1, a5_4, b5_4, a5_3, b5_3, a5_2, b5_2, a5_1, b5_1]), (by simp [a2_1, b2_1, a3_2, b3_2, a3_1, b3_1, a4_3, b4_3, a4_2, b4_2, a4_1, b4_1, a5_4, b5_4, a5_3, b5_3, a5_2, b5_2, a5_1, b5_1]), ?_⟩
          simp only [finD]
          exact mid_pan (s' := { s2p with deep := IntKind.i64.wrap (s2p.deep - 1) }) (by simp [a2_1, b2_1, a3_2, b3_2, a3_1, b3_1, a4_3, b4_3, a4_2, b4_2, a4_1, b4_1, a5_4, b5_4, a5_3, b5_3, a5_2, b5_2, a5_1, b5_1]) k
        · have g3 : ((nl.length : Int) ≥ 6) = False := eq_false (by omega)
          replace k := wpR_no (q := ((G l).expr 0 s2p).bind fun x s => callL l (G l) j ((Nd.mk nk nt ns nm nl).addKid x) s) (by simpa [Nd.kidsOf] using c3p) k
          rw [wpR_bind] at k
          simp (maxSteps := 1000000) only [g3, len_encs, hp, a2_1, b2_1, a3_2, b3_2, a3_1, b3_1, a4_3, b4_3, a4_2, b4_2, a4_1, b4_1, a5_4, b5_4, a5_3, b5_3, a5_2, b5_2, a5_1, b5_1, len_enc, enc_ok, enc_unnil, part_enc, take5, set5, setE, retD_ret, retD_normal, leav_nil, leav_func, finD, tbG_e, tb64p_e, zzK, seval]
          intro _
          refine ⟨l, s2p, i1, 0, rfl, hl, (by simp [a2_1, b2_1, a3_2, b3_2, a3_1, b3_1, a4_3, b4_3, a4_2, b4_2, a4_1, b4_1, a5_4, b5_4, a5_3, b5_3, a5_2, b5_2, a5_1, b5_1]), ok2, wpR_mono' (fun y s3p e3 k ok3 => ?_) (fun a e k s' => ?_) k⟩
          case refine_2 =>
            intro σ hσ _
            simp only [panD]
            rw [hσ]
            show leav dIn [⟨.func 103, [.ptr i3 1 0], []⟩] _ _ _
            simp only [leav_func, leav_nil, List.nil_append]
            refine ⟨rfl, i3, i1, l, s', rfl, by simp [a2_1, b2_1, a3_2, b3_2, a3_1, b3_1, a4_3, b4_3, a4_2, b4_2, a4_1, b4_1, a5_4, b5_4, a5_3, b5_3, a5_2, b5_2, a5_1, b5_1], by simp [a2_1, b2_1, a3_2, b3_2, a3_1, b3_1, a4_3, b4_3, a4_2, b4_2, a4_1, b4_1, a5_4, b5_4, a5_3, b5_3, a5_2, b5_2, a5_1, b5_1], ?_⟩
            simp only [finD]
            exact mid_pan (s' := { s' with deep := IntKind.i64.wrap (s'.deep - 1) }) (by simp [a2_1, b2_1, a3_2, b3_2, a3_1, b3_1, a4_3, b4_3, a4_2, b4_2, a4_1, b4_1, a5_4, b5_4, a5_3, b5_3, a5_2, b5_2, a5_1, b5_1]) k
          have d3 : s3p.deep = s.deep + 1 := ((hG l).expr _ _ y s3p e3).trans d2
          simp (maxSteps := 1000000) only [encN, len_encs, hp, a2_1, b2_1, a3_2, b3_2, a3_1, b3_1, a4_3, b4_3, a4_2, b4_2, a4_1, b4_1, a5_4, b5_4, a5_3, b5_3, a5_2, b5_2, a5_1, b5_1, len_enc, enc_ok, enc_unnil, part_enc, take5, set5, setE, retD_ret, retD_normal, leav_nil, leav_func, finD, tbG_e, tb64p_e, zzK, seval]
          refine ⟨by omega, hQ (j, .mk nk nt ns nm (nl ++ [y]), i5, s3p) _ _ ⟨ok3, d3, k, fun _ => ⟨a5_1, a5_2, a5_3, a5_4⟩⟩ (by simp only [tb64p_e, zzK, seval]) ?_ (by simp only; omega)⟩
          have hne : nl ++ [y] ≠ [] := by simp
          simp only [withK, Nd.kidsOf, encW, List.length_append, List.length_cons, List.length_nil, hne, if_false, ← encs_snoc, ownD_pos (show nl.length + (0 + 1) ≠ 0 by omega)]
          rw [show nl.length + 2 + 1 = nl.length + (0 + 1) + 2 by omega]
          exact AHeap.sub_X (by repeat' first | with_reducible exact AHeap.subX_refl | with_reducible exact AHeap.subX_emp | refine AHeap.subX_l (by simp [a2_1, b2_1, a3_2, b3_2, a3_1, b3_1, a4_3, b4_3, a4_2, b4_2, a4_1, b4_1, a5_4, b5_4, a5_3, b5_3, a5_2, b5_2, a5_1, b5_1]) ?_ | refine AHeap.subX_r (by simp [a2_1, b2_1, a3_2, b3_2, a3_1, b3_1, a4_3, b4_3, a4_2, b4_2, a4_1, b4_1, a5_4, b5_4, a5_3, b5_3, a5_2, b5_2, a5_1, b5_1]) ?_)
end
end Go.Proofs.YtpagdhbmbnoddaaGreatDoor.Zz
