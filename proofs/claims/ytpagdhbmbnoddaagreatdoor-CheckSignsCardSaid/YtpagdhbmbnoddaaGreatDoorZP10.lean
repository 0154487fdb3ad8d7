/- Contracts: parts of expressions. -/
import Derived.Test.YtpagdhbmbnoddaaGreatDoorZP8
set_option linter.unnecessarySimpa false
set_option linter.unusedVariables false
set_option linter.unusedSimpArgs false
set_option maxRecDepth 20000
namespace Go.Proofs.YtpagdhbmbnoddaaGreatDoor.Zz
noncomputable section
def p131p : Plan := ⟨⟨[], [(4, 2), (5, 1), (6, 3), (6, 6), (8, 1), (14, 3), (15, 1), (16, 3), (16, 6), (17, 1), (20, 1), (21, 1), (22, 1), (24, 1), (25, 1), (26, 2), (27, 3)], [], [], [], []⟩, [], [], false⟩
def s131p : Stm :=
 .seq (.ops [⟨.alloc [(.int .i64 0), (.int .i64 0), (.str []), (.int .i64 0), .nilsl], some 2, none, false⟩])
 (.seq (.seq (.ops [⟨.buildSlice 1 [(.str [])] 2 [(0, (.c (.str [45]))), (1, (.c (.str [33])))] false, some 12, none, true⟩,
 ⟨.len .sl (.t 12), some 13, none, false⟩,
 ⟨.mov (.c (.int .i64 0)), some 14, none, true⟩])
 (.block 0 (.loop (.seq (.ops [⟨.bin .lss (.t 14) (.t 13), some 15, none, true⟩])
 (.seq (.cond (.t 15)
 (.skip)
 (.exit 0))
 (.seq (.block 1 (.seq (.ops [⟨.indexAddrS 1 (.t 12) (.t 14), some 16, none, false⟩,
 ⟨.load none (.t 16), some 17, none, false⟩,
 ⟨.mov (.t 17), some 4, none, true⟩])
 (.seq (.ops [⟨.mov (.t 0), some 18, none, true⟩,
 ⟨.mov (.t 4), some 19, none, true⟩,
 ⟨.call (.f 60) [(.t 18), (.t 19)], some 20, none, false⟩])
 (.cond (.t 20)
 (.seq (.seq (.ops [⟨.mov (.t 0), some 21, none, true⟩,
 ⟨.call (.f 86) [(.t 21)], some 22, none, false⟩])
 (.defer (.t 22) []))
 (.seq (.ops [⟨.mov (.t 0), some 23, none, true⟩,
 ⟨.mov (.t 4), some 24, none, true⟩,
 ⟨.mov (.t 0), some 25, none, true⟩,
 ⟨.call (.f 131) [(.t 25)], some 26, none, false⟩,
 ⟨.buildSlice 5 [(.int .i64 0), (.int .i64 0), (.str []), (.int .i64 0), .nilsl] 1 [(0, (.t 26))] false, some 27, none, true⟩,
 ⟨.build [(.int .i64 0), (.int .i64 0), (.str []), (.int .i64 0), .nilsl] [(0, 1, (.c (.int .i64 25))), (2, 1, (.t 24)), (4, 1, (.t 27))], some 28, none, true⟩,
 ⟨.call (.f 32) [(.t 23), (.t 28)], some 29, none, false⟩,
 ⟨.store 5 (.t 2) (.t 29), none, none, false⟩])
 (.ret)))
 (.skip)))))
 (.ops [⟨.bin .add (.t 14) (.c (.int .i64 1)), some 30, none, true⟩,
 ⟨.mov (.t 30), some 14, none, true⟩])))))))
 (.seq (.seq (.ops [⟨.mov (.t 0), some 32, none, true⟩,
 ⟨.call (.f 83) [(.t 32)], some 33, none, false⟩,
 ⟨.mov (.t 33), some 31, none, true⟩,
 ⟨.extract (.t 31) 0, some 34, none, true⟩,
 ⟨.extract (.t 31) 1, some 35, none, true⟩,
 ⟨.alloc [(.int .i64 0), (.int .i64 0), (.str []), (.int .i64 0), .nilsl], some 5, none, false⟩,
 ⟨.store 5 (.t 5) (.t 34), none, none, false⟩,
 ⟨.mov (.t 35), some 6, none, true⟩])
 (.seq (.ops [⟨.mov (.t 6), some 36, none, true⟩])
 (.cond (.t 36)
 (.seq (.ops [⟨.load (some 5) (.t 5), some 37, none, false⟩,
 ⟨.store 5 (.t 2) (.t 37), none, none, false⟩])
 (.ret))
 (.skip))))
 (.seq (.seq (.ops [⟨.buildSlice 1 [(.int .i64 0)] 2 [(0, (.c (.int .i64 1))), (1, (.c (.int .i64 2)))] false, some 38, none, true⟩,
 ⟨.len .sl (.t 38), some 39, none, false⟩,
 ⟨.mov (.c (.int .i64 0)), some 40, none, true⟩])
 (.block 2 (.loop (.seq (.ops [⟨.bin .lss (.t 40) (.t 39), some 41, none, true⟩])
 (.seq (.cond (.t 41)
 (.skip)
 (.exit 2))
 (.seq (.block 3 (.seq (.ops [⟨.indexAddrS 1 (.t 38) (.t 40), some 42, none, false⟩,
 ⟨.load none (.t 42), some 43, none, false⟩,
 ⟨.mov (.t 43), some 8, none, true⟩])
 (.seq (.ops [⟨.mov (.t 0), some 44, none, true⟩,
 ⟨.mov (.t 8), some 45, none, true⟩,
 ⟨.qcall (.f 45) [(.t 45)], some 46, none, false⟩,
 ⟨.call (.f 60) [(.t 44), (.t 46)], some 47, none, false⟩])
 (.cond (.t 47)
 (.seq (.ops [⟨.mov (.t 0), some 48, none, true⟩,
 ⟨.call (.f 63) [(.t 48), (.c (.str [40]))], some 49, none, false⟩])
 (.seq (.ops [⟨.mov (.t 0), some 50, none, true⟩,
 ⟨.mov (.t 8), some 51, none, true⟩,
 ⟨.mov (.t 0), some 52, none, true⟩,
 ⟨.call (.f 105) [(.t 52), (.c (.int .i64 0))], some 53, none, false⟩,
 ⟨.buildSlice 5 [(.int .i64 0), (.int .i64 0), (.str []), (.int .i64 0), .nilsl] 1 [(0, (.t 53))] false, some 54, none, true⟩,
 ⟨.build [(.int .i64 0), (.int .i64 0), (.str []), (.int .i64 0), .nilsl] [(0, 1, (.c (.int .i64 27))), (1, 1, (.t 51)), (4, 1, (.t 54))], some 55, none, true⟩,
 ⟨.call (.f 32) [(.t 50), (.t 55)], some 56, none, false⟩,
 ⟨.alloc [(.int .i64 0), (.int .i64 0), (.str []), (.int .i64 0), .nilsl], some 9, none, false⟩,
 ⟨.store 5 (.t 9) (.t 56), none, none, false⟩])
 (.seq (.ops [⟨.mov (.t 0), some 57, none, true⟩,
 ⟨.call (.f 63) [(.t 57), (.c (.str [41]))], some 58, none, false⟩])
 (.seq (.ops [⟨.load (some 5) (.t 9), some 59, none, false⟩,
 ⟨.store 5 (.t 2) (.t 59), none, none, false⟩])
 (.ret)))))
 (.skip)))))
 (.ops [⟨.bin .add (.t 40) (.c (.int .i64 1)), some 60, none, true⟩,
 ⟨.mov (.t 60), some 40, none, true⟩])))))))
 (.seq (.seq (.ops [⟨.mov (.t 0), some 61, none, true⟩,
 ⟨.call (.f 60) [(.t 61), (.c (.str [40]))], some 62, none, false⟩])
 (.cond (.t 62)
 (.seq (.ops [⟨.mov (.t 0), some 63, none, true⟩,
 ⟨.call (.f 105) [(.t 63), (.c (.int .i64 0))], some 64, none, false⟩,
 ⟨.alloc [(.int .i64 0), (.int .i64 0), (.str []), (.int .i64 0), .nilsl], some 10, none, false⟩,
 ⟨.store 5 (.t 10) (.t 64), none, none, false⟩])
 (.seq (.ops [⟨.mov (.t 0), some 65, none, true⟩,
 ⟨.call (.f 63) [(.t 65), (.c (.str [41]))], some 66, none, false⟩])
 (.seq (.ops [⟨.load (some 5) (.t 10), some 67, none, false⟩,
 ⟨.store 5 (.t 2) (.t 67), none, none, false⟩])
 (.ret))))
 (.skip)))
 (.seq (.ops [⟨.mov (.t 0), some 68, none, true⟩,
 ⟨.call (.f 61) [(.t 68)], some 69, none, false⟩,
 ⟨.mov (.t 69), some 11, none, true⟩])
 (.seq (.seq (.ops [⟨.mov (.t 0), some 70, none, true⟩,
 ⟨.call (.f 34) [(.t 70), (.c (.str [40]))], some 71, none, false⟩])
 (.cond (.t 71)
 (.seq (.ops [⟨.mov (.t 0), some 72, none, true⟩,
 ⟨.mov (.t 11), some 73, none, true⟩,
 ⟨.call (.f 107) [(.t 72), (.t 73)], some 74, none, false⟩,
 ⟨.store 5 (.t 2) (.t 74), none, none, false⟩])
 (.ret))
 (.skip)))
 (.seq (.ops [⟨.mov (.t 0), some 75, none, true⟩,
 ⟨.mov (.t 11), some 76, none, true⟩,
 ⟨.build [(.int .i64 0), (.int .i64 0), (.str []), (.int .i64 0), .nilsl] [(0, 1, (.c (.int .i64 23))), (2, 1, (.t 76))], some 77, none, true⟩,
 ⟨.call (.f 32) [(.t 75), (.t 77)], some 78, none, false⟩,
 ⟨.store 5 (.t 2) (.t 78), none, none, false⟩])
 (.ret))))))))
theorem st131p : stmOf Tryz.prog 131 p131p = some (s131p, [.cell 2 (some 5)], 79) := by kernel_rfl
def unA (l : List Tok) (g : PRec) (s : PS) : PR Nd := (pTake l [40] s).bind fun b s => bif b then (g.expr 0 s).bind fun n s => (pMust l [41] s).bind fun _ s => .ok n s else
  (pName l s).bind fun x s => bif pIs l [40] s then g.call x s else pNode l (.mk 23 0 x 0 []) s
def unB (l : List Tok) (g : PRec) (s : PS) : PR Nd := (pTake l wFloat s).bind fun b s => bif b then pConv l g 2 s else unA l g s
def unC (l : List Tok) (g : PRec) (s : PS) : PR Nd := (pTake l wInt s).bind fun b s => bif b then pConv l g 1 s else unB l g s
def unD (l : List Tok) (g : PRec) (s : PS) : PR Nd := (pPlain l s).bind fun x s => bif x.2 then .ok x.1 s else unC l g s
def unE (l : List Tok) (g : PRec) (s : PS) : PR Nd := (pTake l [33] s).bind fun b s => bif b then pUn l g [33] s else unD l g s
def unF (l : List Tok) (g : PRec) (s : PS) : PR Nd := (pTake l [45] s).bind fun b s => bif b then pUn l g [45] s else unE l g s
theorem unary_eq (l : List Tok) (g : PRec) : unaryG l g = unF l g := rfl
def unI (l : List Tok) (g : PRec) : Nat → PS → PR Nd
  | 0 => unF l g
  | 1 => unE l g
  | _ => unD l g
def unJ (l : List Tok) (g : PRec) : Nat → PS → PR Nd
  | 0 => unC l g
  | 1 => unB l g
  | _ => unA l g
theorem take_no {l : List Tok} {x : List UInt8} {s s1p : PS} (h : pTake l x s = .ok false s1p) : s1p = s := by
  unfold pTake at h
  cases c : pIs l x s with
  | true => rw [c] at h; cases h
  | false => rw [c] at h; cases h; rfl
set_option maxHeartbeats 1000000 in
theorem unary_c (G : List Tok → PRec) (hG : ∀ l, PKeep (G l)) (hT : (tbG G).ok Tryz.prog) (l : List Tok) (hl : WOk l) (s : PS) (i1 : Nat) (ok : PSok l s) (K0 : Nd → PS → Prop) (E0 : Int → Int → Prop) (hw : wpR (unaryG l (G l) s) (fun x s' => PSok l s' → K0 x s') E0) : ACalls Tryz.prog 131 [.ptr i1 1 0] (AHeap.emp.set i1 (pObj l s)) (retP encN l i1 K0 E0) := by
  refine ACalls.of_stmD hT (dc := dIn) dIn_ok (by kernel_rfl) st131p (by simp) ?_
  rw [vc_todo]
  have hp := fun (h : AHeap) (j : Nat) (B C : AObj) => push_id (id := i1) h j B C
  rw [unary_eq] at hw
  simp (maxSteps := 1000000) only [s131p, hp, hp, len_enc, enc_ok, enc_unnil, part_enc, take5, set5, setE, retD_ret, retD_normal, leav_nil, leav_func, finD, tbG_e, tb64p_e, zzK, seval]
  intro i2 a2_1 b2_1
  refine run_loop (X := Nat) (fun i => [(0, .ptr i1 1 0), (2, .ptr i2 1 0), (12, .sl [[.str [45]], [.str [33]]]), (13, .int .i64 2), (14, .int .i64 i)]) (fun _ => (AHeap.emp.set i1 (pObj l s)).set i2 (.cells [.int .i64 0, .int .i64 0, .str [], .int .i64 0, .nilsl])) (fun i => 3 - i)
    (fun i => i ≤ 2 ∧ wpR (unI l (G l) i s) (fun x s' => PSok l s' → K0 x s') E0) 0 ⟨by omega, hw⟩ (by simp only [tb64p_e, zzK, seval]) (AHeap.sub_refl _) ?_
  clear hw
  rintro i Q ⟨hi, hw⟩ hQ
  by_cases c0p : i < 2
  · have g0 : ((i : Int) < 2) = True := eq_true (by omega)
    have wi : IntKind.i64.wrap ((i : Int) + 1) = ((i + 1 : Nat) : Int) := wrap_succ (by omega)
    obtain ⟨x, hx, hw⟩ : ∃ x, ([[45], [33]] : List (List UInt8))[i]? = some x ∧ wpR ((pTake l x s).bind fun b s => bif b then pUn l (G l) x s else unI l (G l) (i + 1) s) (fun x s' => PSok l s' → K0 x s') E0 := by
      rcases (by omega : i = 0 ∨ i = 1) with rfl | rfl
      · exact ⟨_, rfl, hw⟩
      · exact ⟨_, rfl, hw⟩
    have hac : ∀ (K : D → AHeap → Prop) (h : AHeap), askE 1 K h [[.str [45]], [.str [33]]] (i : Int) = K (.eptr [.str x] 0) h := fun K h => by
      have := askE_map (K := K) (h := h) (l := ([[45], [33]] : List (List UInt8))) (i := (i : Int)) (f := fun b : List UInt8 => [D.str b]) (sz := 1) fun _ => rfl
      refine Eq.trans this (propext ⟨fun hh => hh.2 x (by simpa using hx), fun hh => ⟨⟨by omega, by simp; omega⟩, fun y hy => ?_⟩⟩)
      rw [Int.toNat_natCast, hx] at hy
      cases hy
      exact hh
    rw [wpR_bind] at hw
    simp (maxSteps := 1000000) only [g0, hac, hp, a2_1, b2_1, len_enc, enc_ok, enc_unnil, part_enc, take5, set5, setE, retD_ret, retD_normal, leav_nil, leav_func, finD, tbG_e, tb64p_e, zzK, seval]
    refine ⟨l, s, i1, x, rfl, hl.lo, (by simp [a2_1, b2_1]), ok, wpR_mono' (fun b s1p e1 k ok1 => ?_) (fun a e k s' => ?_) hw⟩
    case refine_2 =>
      simp only [panD, leav_nil, finD]
      exact mid_pan (s' := s') (by simp [a2_1, b2_1]) k
    cases b with
    | false =>
      have := take_no e1
      subst this
      rw [cond_false] at k
      simp (maxSteps := 1000000) only [wi, hp, a2_1, b2_1, len_enc, enc_ok, enc_unnil, part_enc, take5, set5, setE, retD_ret, retD_normal, leav_nil, leav_func, finD, tbG_e, tb64p_e, zzK, seval]
      exact hQ (i + 1) _ _ ⟨by omega, k⟩ (by simp only [tb64p_e, zzK, seval]) (AHeap.sub_refl _) (by omega)
    | true =>
      rw [cond_true] at k
      have w1 : IntKind.i64.wrap (s1p.deep + 1) = s1p.deep + 1 := wrap_i64 (by have := ok1.d0; omega) (by have := ok1.d1; omega)
      unfold pUn pDeep pIn at k
      rw [wpR_bind] at k
      simp (maxSteps := 1000000) only [s86p, pObj, hp, a2_1, b2_1, len_enc, enc_ok, enc_unnil, part_enc, take5, set5, setE, retD_ret, retD_normal, leav_nil, leav_func, finD, tbG_e, tb64p_e, zzK, seval]
      intro i3 a3_2 b3_2 a3_1 b3_1
      by_cases c : s1p.deep + 1 > 40
      · have g : (s1p.deep + 1 > 40) = True := eq_true c
        rw [if_pos c] at k
        simp (maxSteps := 1000000) only [g, w1, hp, a2_1, b2_1, a3_2, b3_2, a3_1, b3_1, len_enc, enc_ok, enc_unnil, part_enc, take5, set5, setE, retD_ret, retD_normal, leav_nil, leav_func, finD, tbG_e, tb64p_e, zzK, seval]
        refine ⟨l, { s1p with deep := s1p.deep + 1 }, i1, 3, rfl, by simp [pObj, a2_1, b2_1, a3_2, b3_2, a3_1, b3_1], ok1.at_, ?_⟩
        simp only [panS, panD, true_and]
        refine ⟨rfl, ?_⟩
        show leav dIn [] (some (stopD _ 3)) _ _
        simp only [leav_nil, finD]
        exact mid_pan (s' := { s1p with deep := s1p.deep + 1 }) (by simp [pObj, a2_1, b2_1, a3_2, b3_2, a3_1, b3_1]) k
      · have g : (s1p.deep + 1 > 40) = False := eq_false c
        rw [if_neg c, wpR_ok] at k
        have okd := deepIn ok1 c
        simp only [pOff, wpR_bind, wpR_ok] at k
        simp (maxSteps := 1000000) only [g, w1, hp, a2_1, b2_1, a3_2, b3_2, a3_1, b3_1, len_enc, enc_ok, enc_unnil, part_enc, take5, set5, setE, retD_ret, retD_normal, leav_nil, leav_func, finD, tbG_e, tb64p_e, zzK, seval]
        generalize hsd : ({ s1p with deep := s1p.deep + 1 } : PS) = sd at *
        have hde : sd.deep = s1p.deep + 1 := by rw [← hsd]
        refine ⟨l, sd, i1, rfl, hl, by rw [← hsd]; simp [pObj, a2_1, b2_1, a3_2, b3_2, a3_1, b3_1], okd, wpR_mono' (fun n s2p e2 k ok2 => ?_) (fun a e k s' => ?_) k⟩
        case refine_2 =>
          simp only [panD, leav_func, leav_nil, List.nil_append, List.append_nil]
          refine ⟨rfl, i3, i1, l, s', rfl, by simp [a2_1, b2_1, a3_2, b3_2, a3_1, b3_1], by simp [a2_1, b2_1, a3_2, b3_2, a3_1, b3_1], ?_⟩
          simp only [finD]
          exact mid_pan (s' := { s' with deep := IntKind.i64.wrap (s'.deep - 1) }) (by simp [a2_1, b2_1, a3_2, b3_2, a3_1, b3_1]) k
        have d2 : s2p.deep = s1p.deep + 1 := ((hG l).unary _ _ _ e2).trans hde
        simp (maxSteps := 1000000) only [encN, hp, a2_1, b2_1, a3_2, b3_2, a3_1, b3_1, len_enc, enc_ok, enc_unnil, part_enc, take5, set5, setE, retD_ret, retD_normal, leav_nil, leav_func, finD, tbG_e, tb64p_e, zzK, seval]
        refine .inl ⟨l, s2p, i1, .mk 25 0 x 0 [n], by simp only [enc_mk, encs_cons, encs_nil], hl.lo, (by simp [a2_1, b2_1, a3_2, b3_2, a3_1, b3_1]), ok2, wpR_mono' (fun n2 s3p e3 k ok3 => ?_) (fun a e k s' => ?_) k⟩
        case refine_2 =>
          simp only [panD, leav_func, leav_nil, List.nil_append, List.append_nil]
          refine ⟨rfl, i3, i1, l, s', rfl, by simp [a2_1, b2_1, a3_2, b3_2, a3_1, b3_1], by simp [a2_1, b2_1, a3_2, b3_2, a3_1, b3_1], ?_⟩
          simp only [finD]
          exact mid_pan (s' := { s' with deep := IntKind.i64.wrap (s'.deep - 1) }) (by simp [a2_1, b2_1, a3_2, b3_2, a3_1, b3_1]) k
        have d3 : s3p.deep = s1p.deep + 1 := (keeps_pNode _ _ e3).trans d2
        have k := k (deepOk ok1 ok3 d3).1
        have wd := (deepOk ok1 ok3 d3).2
        simp (maxSteps := 1000000) only [encN, hp, a2_1, b2_1, a3_2, b3_2, a3_1, b3_1, len_enc, enc_ok, enc_unnil, part_enc, take5, set5, setE, retD_ret, retD_normal, leav_nil, leav_func, finD, tbG_e, tb64p_e, zzK, seval]
        refine ⟨rfl, i3, i1, l, s3p, rfl, (by simp [a2_1, b2_1, a3_2, b3_2, a3_1, b3_1]), (by simp [a2_1, b2_1, a3_2, b3_2, a3_1, b3_1]), ?_⟩
        rw [wd]
        simp (maxSteps := 1000000) only [encN, hp, a2_1, b2_1, a3_2, b3_2, a3_1, b3_1, len_enc, enc_ok, enc_unnil, part_enc, take5, set5, setE, retD_ret, retD_normal, leav_nil, leav_func, finD, tbG_e, tb64p_e, zzK, seval]
        exact mid_ret (x := n2) (s' := { s3p with deep := s3p.deep - 1 }) rfl (by simp [a2_1, b2_1, a3_2, b3_2, a3_1, b3_1]) k
  · have e0 : i = 2 := by omega
    subst e0
    clear hQ hi
    replace hw : wpR (unD l (G l) s) (fun x s' => PSok l s' → K0 x s') E0 := hw
    unfold unD at hw
    rw [wpR_bind] at hw
    simp (maxSteps := 1000000) only [hp, a2_1, b2_1, len_enc, enc_ok, enc_unnil, part_enc, take5, set5, setE, retD_ret, retD_normal, leav_nil, leav_func, finD, tbG_e, tb64p_e, zzK, seval]
    refine ⟨l, s, i1, rfl, hl, (by simp [a2_1, b2_1]), ok, wpR_mono' (fun xb s1p e1 k ok1 => ?_) (fun a e k s' => ?_) hw⟩
    case refine_2 =>
      simp only [panD, leav_nil, finD]
      exact mid_pan (s' := s') (by simp [a2_1, b2_1]) k
    obtain ⟨n, b⟩ := xb
    simp (maxSteps := 1000000) only [hp, a2_1, b2_1, len_enc, enc_ok, enc_unnil, part_enc, take5, set5, setE, retD_ret, retD_normal, leav_nil, leav_func, finD, tbG_e, tb64p_e, zzK, seval]
    intro i3 a3_2 b3_2 a3_1 b3_1
    cases b with
    | true =>
      rw [cond_true, wpR_ok] at k
      simp (maxSteps := 1000000) only [hp, a2_1, b2_1, a3_2, b3_2, a3_1, b3_1, len_enc, enc_ok, enc_unnil, part_enc, take5, set5, setE, retD_ret, retD_normal, leav_nil, leav_func, finD, tbG_e, tb64p_e, zzK, seval]
      exact mid_ret (x := n) (s' := s1p) rfl (by simp [a2_1, b2_1, a3_2, b3_2, a3_1, b3_1]) (k ok1)
    | false =>
    rw [cond_false] at k
    clear hw
    simp (maxSteps := 1000000) only [hp, a2_1, b2_1, a3_2, b3_2, a3_1, b3_1, len_enc, enc_ok, enc_unnil, part_enc, take5, set5, setE, retD_ret, retD_normal, leav_nil, leav_func, finD, tbG_e, tb64p_e, zzK, seval]
    refine run_loop (X := Nat) (fun i => [(0, .ptr i1 1 0), (2, .ptr i2 1 0), (38, .sl [[.int .i64 1], [.int .i64 2]]), (39, .int .i64 2), (40, .int .i64 i)]) (fun _ => (AHeap.emp.set i1 (pObj l s1p)).set i2 (.cells [.int .i64 0, .int .i64 0, .str [], .int .i64 0, .nilsl])) (fun i => 3 - i)
      (fun i => i ≤ 2 ∧ wpR (unJ l (G l) i s1p) (fun x s' => PSok l s' → K0 x s') E0) 0 ⟨by omega, k⟩ (by simp only [tb64p_e, zzK, seval]) (by exact AHeap.sub_X (by repeat' first | with_reducible exact AHeap.subX_refl | with_reducible exact AHeap.subX_emp | refine AHeap.subX_l (by simp [a2_1, b2_1, a3_2, b3_2, a3_1, b3_1]) ?_ | refine AHeap.subX_r (by simp [a2_1, b2_1, a3_2, b3_2, a3_1, b3_1]) ?_)) ?_
    clear k e1
    rintro i Q ⟨hi, hw⟩ hQ
    by_cases c0p : i < 2
    · have g0 : ((i : Int) < 2) = True := eq_true (by omega)
      have wi : IntKind.i64.wrap ((i : Int) + 1) = ((i + 1 : Nat) : Int) := wrap_succ (by omega)
      replace hw : wpR ((pTake l (typeN ((i + 1 : Nat) : Int)) s1p).bind fun b s => bif b then pConv l (G l) ((i + 1 : Nat) : Int) s else unJ l (G l) (i + 1) s) (fun x s' => PSok l s' → K0 x s') E0 := by
        rcases (by omega : i = 0 ∨ i = 1) with rfl | rfl
        · exact hw
        · exact hw
      have hac : ∀ (K : D → AHeap → Prop) (h : AHeap), askE 1 K h [[.int .i64 1], [.int .i64 2]] (i : Int) = K (.eptr [.int .i64 ((i + 1 : Nat) : Int)] 0) h := fun K h => by
        have := askE_map (K := K) (h := h) (l := ([1, 2] : List Int)) (i := (i : Int)) (f := fun b : Int => [D.int .i64 b]) (sz := 1) fun _ => rfl
        have hx : ([1, 2] : List Int)[i]? = some ((i + 1 : Nat) : Int) := by
          rcases (by omega : i = 0 ∨ i = 1) with rfl | rfl <;> rfl
        refine Eq.trans this (propext ⟨fun hh => hh.2 _ (by simpa using hx), fun hh => ⟨⟨by omega, by simp; omega⟩, fun y hy => ?_⟩⟩)
        rw [Int.toNat_natCast, hx] at hy
        cases hy
        exact hh
      have hq : q45p [.int .i64 ((i + 1 : Nat) : Int)] = some (.str (typeN ((i + 1 : Nat) : Int))) := rfl
      generalize hv : ((i + 1 : Nat) : Int) = v at *
      rw [wpR_bind] at hw
      simp (maxSteps := 1000000) only [g0, hac, hq, hp, a2_1, b2_1, len_enc, enc_ok, enc_unnil, part_enc, take5, set5, setE, retD_ret, retD_normal, leav_nil, leav_func, finD, tbG_e, tb64p_e, zzK, seval]
      refine ⟨l, s1p, i1, typeN v, rfl, hl.lo, (by simp [a2_1, b2_1]), ok1, wpR_mono' (fun b s2p e2 k ok2 => ?_) (fun a e k s' => ?_) hw⟩
      case refine_2 =>
        simp only [panD, leav_nil, finD]
        exact mid_pan (s' := s') (by simp [a2_1, b2_1]) k
      cases b with
      | false =>
        have := take_no e2
        subst this
        rw [cond_false] at k
        simp (maxSteps := 1000000) only [wi, hp, a2_1, b2_1, len_enc, enc_ok, enc_unnil, part_enc, take5, set5, setE, retD_ret, retD_normal, leav_nil, leav_func, finD, tbG_e, tb64p_e, zzK, seval]
        exact hQ (i + 1) _ _ ⟨by omega, k⟩ (by simp only [hv, tb64p_e, zzK, seval]) (AHeap.sub_refl _) (by omega)
      | true =>
        rw [cond_true] at k
        unfold pConv at k
        rw [wpR_bind] at k
        simp (maxSteps := 1000000) only [hp, a2_1, b2_1, len_enc, enc_ok, enc_unnil, part_enc, take5, set5, setE, retD_ret, retD_normal, leav_nil, leav_func, finD, tbG_e, tb64p_e, zzK, seval]
        refine ⟨l, s2p, i1, [40], rfl, hl.lo, (by simp [a2_1, b2_1]), ok2, wpR_mono' (fun _ s3p e3 k ok3 => ?_) (fun a e k s' => ?_) k⟩
        case refine_2 =>
          simp only [panD, leav_nil, finD]
          exact mid_pan (s' := s') (by simp [a2_1, b2_1]) k
        rw [wpR_bind] at k
        simp (maxSteps := 1000000) only [hp, a2_1, b2_1, len_enc, enc_ok, enc_unnil, part_enc, take5, set5, setE, retD_ret, retD_normal, leav_nil, leav_func, finD, tbG_e, tb64p_e, zzK, seval]
        refine ⟨l, s3p, i1, 0, rfl, hl, (by simp [a2_1, b2_1]), ok3, wpR_mono' (fun n s4p e4 k ok4 => ?_) (fun a e k s' => ?_) k⟩
        case refine_2 =>
          simp only [panD, leav_nil, finD]
          exact mid_pan (s' := s') (by simp [a2_1, b2_1]) k
        rw [wpR_bind] at k
        simp (maxSteps := 1000000) only [encN, hp, a2_1, b2_1, len_enc, enc_ok, enc_unnil, part_enc, take5, set5, setE, retD_ret, retD_normal, leav_nil, leav_func, finD, tbG_e, tb64p_e, zzK, seval]
        refine .inl ⟨l, s4p, i1, .mk 27 v [] 0 [n], by simp only [enc_mk, encs_cons, encs_nil], hl.lo, (by simp [a2_1, b2_1]), ok4, wpR_mono' (fun n2 s5p e5 k ok5 => ?_) (fun a e k s' => ?_) k⟩
        case refine_2 =>
          simp only [panD, leav_nil, finD]
          exact mid_pan (s' := s') (by simp [a2_1, b2_1]) k
        rw [wpR_bind] at k
        simp (maxSteps := 1000000) only [encN, hp, a2_1, b2_1, len_enc, enc_ok, enc_unnil, part_enc, take5, set5, setE, retD_ret, retD_normal, leav_nil, leav_func, finD, tbG_e, tb64p_e, zzK, seval]
        intro i3 a3_2 b3_2 a3_1 b3_1
        refine ⟨l, s5p, i1, [41], rfl, hl.lo, (by simp [a2_1, b2_1, a3_2, b3_2, a3_1, b3_1]), ok5, wpR_mono' (fun _ s6p e6 k ok6 => ?_) (fun a e k s' => ?_) k⟩
        case refine_2 =>
          simp only [panD, leav_nil, finD]
          exact mid_pan (s' := s') (by simp [a2_1, b2_1, a3_2, b3_2, a3_1, b3_1]) k
        rw [wpR_ok] at k
        simp (maxSteps := 1000000) only [hp, a2_1, b2_1, a3_2, b3_2, a3_1, b3_1, len_enc, enc_ok, enc_unnil, part_enc, take5, set5, setE, retD_ret, retD_normal, leav_nil, leav_func, finD, tbG_e, tb64p_e, zzK, seval]
        exact mid_ret (x := n2) (s' := s6p) rfl (by simp [a2_1, b2_1, a3_2, b3_2, a3_1, b3_1]) (k ok6)
    · have e0 : i = 2 := by omega
      subst e0
      clear hQ hi
      replace hw : wpR (unA l (G l) s1p) (fun x s' => PSok l s' → K0 x s') E0 := hw
      unfold unA at hw
      rw [wpR_bind] at hw
      simp (maxSteps := 1000000) only [hp, a2_1, b2_1, len_enc, enc_ok, enc_unnil, part_enc, take5, set5, setE, retD_ret, retD_normal, leav_nil, leav_func, finD, tbG_e, tb64p_e, zzK, seval]
      refine ⟨l, s1p, i1, [40], rfl, hl.lo, (by simp [a2_1, b2_1]), ok1, wpR_mono' (fun b s2p e2 k ok2 => ?_) (fun a e k s' => ?_) hw⟩
      case refine_2 =>
        simp only [panD, leav_nil, finD]
        exact mid_pan (s' := s') (by simp [a2_1, b2_1]) k
      cases b with
      | true =>
        rw [cond_true, wpR_bind] at k
        simp (maxSteps := 1000000) only [hp, a2_1, b2_1, len_enc, enc_ok, enc_unnil, part_enc, take5, set5, setE, retD_ret, retD_normal, leav_nil, leav_func, finD, tbG_e, tb64p_e, zzK, seval]
        refine ⟨l, s2p, i1, 0, rfl, hl, (by simp [a2_1, b2_1]), ok2, wpR_mono' (fun n s3p e3 k ok3 => ?_) (fun a e k s' => ?_) k⟩
        case refine_2 =>
          simp only [panD, leav_nil, finD]
          exact mid_pan (s' := s') (by simp [a2_1, b2_1]) k
        rw [wpR_bind] at k
        simp (maxSteps := 1000000) only [encN, hp, a2_1, b2_1, len_enc, enc_ok, enc_unnil, part_enc, take5, set5, setE, retD_ret, retD_normal, leav_nil, leav_func, finD, tbG_e, tb64p_e, zzK, seval]
        intro i3 a3_2 b3_2 a3_1 b3_1
        refine ⟨l, s3p, i1, [41], rfl, hl.lo, (by simp [a2_1, b2_1, a3_2, b3_2, a3_1, b3_1]), ok3, wpR_mono' (fun _ s4p e4 k ok4 => ?_) (fun a e k s' => ?_) k⟩
        case refine_2 =>
          simp only [panD, leav_nil, finD]
          exact mid_pan (s' := s') (by simp [a2_1, b2_1, a3_2, b3_2, a3_1, b3_1]) k
        rw [wpR_ok] at k
        simp (maxSteps := 1000000) only [hp, a2_1, b2_1, a3_2, b3_2, a3_1, b3_1, len_enc, enc_ok, enc_unnil, part_enc, take5, set5, setE, retD_ret, retD_normal, leav_nil, leav_func, finD, tbG_e, tb64p_e, zzK, seval]
        exact mid_ret (x := n) (s' := s4p) rfl (by simp [a2_1, b2_1, a3_2, b3_2, a3_1, b3_1]) (k ok4)
      | false =>
        rw [cond_false, wpR_bind] at k
        simp (maxSteps := 1000000) only [hp, a2_1, b2_1, len_enc, enc_ok, enc_unnil, part_enc, take5, set5, setE, retD_ret, retD_normal, leav_nil, leav_func, finD, tbG_e, tb64p_e, zzK, seval]
        refine ⟨l, s2p, i1, rfl, hl.lo, (by simp [a2_1, b2_1]), ok2, wpR_mono' (fun x s3p e3 k ok3 => ?_) (fun a e k s' => ?_) k⟩
        case refine_2 =>
          simp only [panD, leav_nil, finD]
          exact mid_pan (s' := s') (by simp [a2_1, b2_1]) k
        simp (maxSteps := 1000000) only [hp, a2_1, b2_1, len_enc, enc_ok, enc_unnil, part_enc, take5, set5, setE, retD_ret, retD_normal, leav_nil, leav_func, finD, tbG_e, tb64p_e, zzK, seval]
        refine ⟨l, s3p, i1, [40], rfl, (by simp [a2_1, b2_1]), ok3.at_, ?_⟩
        cases c4p : pIs l [40] s3p with
        | true =>
          rw [c4p, cond_true] at k
          simp (maxSteps := 1000000) only [hp, a2_1, b2_1, len_enc, enc_ok, enc_unnil, part_enc, take5, set5, setE, retD_ret, retD_normal, leav_nil, leav_func, finD, tbG_e, tb64p_e, zzK, seval]
          refine ⟨l, s3p, i1, x, rfl, hl, (by simp [a2_1, b2_1]), ok3, wpR_mono' (fun n s4p e4 k ok4 => ?_) (fun a e k s' => ?_) k⟩
          case refine_2 =>
            simp only [panD, leav_nil, finD]
            exact mid_pan (s' := s') (by simp [a2_1, b2_1]) k
          simp (maxSteps := 1000000) only [encN, hp, a2_1, b2_1, len_enc, enc_ok, enc_unnil, part_enc, take5, set5, setE, retD_ret, retD_normal, leav_nil, leav_func, finD, tbG_e, tb64p_e, zzK, seval]
          exact mid_ret (x := n) (s' := s4p) rfl (by simp [a2_1, b2_1]) (k ok4)
        | false =>
          rw [c4p, cond_false] at k
          simp (maxSteps := 1000000) only [hp, a2_1, b2_1, len_enc, enc_ok, enc_unnil, part_enc, take5, set5, setE, retD_ret, retD_normal, leav_nil, leav_func, finD, tbG_e, tb64p_e, zzK, seval]
          refine .inl ⟨l, s3p, i1, .mk 23 0 x 0 [], by simp only [enc_mk, encs_nil], hl.lo, (by simp [a2_1, b2_1]), ok3, wpR_mono' (fun n s4p e4 k ok4 => ?_) (fun a e k s' => ?_) k⟩
          case refine_2 =>
            simp only [panD, leav_nil, finD]
            exact mid_pan (s' := s') (by simp [a2_1, b2_1]) k
          simp (maxSteps := 1000000) only [encN, hp, a2_1, b2_1, len_enc, enc_ok, enc_unnil, part_enc, take5, set5, setE, retD_ret, retD_normal, leav_nil, leav_func, finD, tbG_e, tb64p_e, zzK, seval]
          exact mid_ret (x := n) (s' := s4p) rfl (by simp [a2_1, b2_1]) (k ok4)
end
end Go.Proofs.YtpagdhbmbnoddaaGreatDoor.Zz
namespace Go.Proofs.YtpagdhbmbnoddaaGreatDoor.Zz
noncomputable section
def p87p : Plan := ⟨⟨[], [(1, 1), (2, 1), (3, 1), (4, 2), (5, 1), (5, 3), (7, 1), (8, 1), (9, 1), (10, 1), (11, 1), (12, 1), (13, 2), (14, 1), (15, 1), (16, 2), (17, 1), (18, 2), (19, 2), (20, 2), (21, 1)], [], [], [], []⟩, [], [], false⟩
def s87p : Stm :=
 .seq (.ops [⟨.alloc [(.int .i64 0), (.int .i64 0), (.str []), (.int .i64 0), .nilsl], some 2, none, false⟩])
 (.seq (.block 0 (.seq (.ops [⟨.mov (.t 0), some 7, none, true⟩,
 ⟨.call (.f 60) [(.t 7), (.c (.str [105, 102]))], some 8, none, false⟩,
 ⟨.mov (.t 8), some 6, none, true⟩])
 (.cond (.t 6)
 (.seq (.ops [⟨.mov (.t 0), some 9, none, true⟩,
 ⟨.call (.f 104) [(.t 9)], some 10, none, false⟩,
 ⟨.store 5 (.t 2) (.t 10), none, none, false⟩])
 (.ret))
 (.seq (.ops [⟨.mov (.t 0), some 12, none, true⟩,
 ⟨.call (.f 60) [(.t 12), (.c (.str [102, 111, 114]))], some 13, none, false⟩,
 ⟨.mov (.t 13), some 11, none, true⟩])
 (.cond (.t 11)
 (.seq (.ops [⟨.mov (.t 0), some 14, none, true⟩,
 ⟨.build [(.int .i64 0), (.int .i64 0), (.str []), (.int .i64 0), .nilsl] [(0, 1, (.c (.int .i64 10)))], some 15, none, true⟩,
 ⟨.call (.f 32) [(.t 14), (.t 15)], some 16, none, false⟩,
 ⟨.alloc [(.int .i64 0), (.int .i64 0), (.str []), (.int .i64 0), .nilsl], some 3, none, false⟩,
 ⟨.store 5 (.t 3) (.t 16), none, none, false⟩])
 (.seq (.ops [⟨.mov (.t 0), some 17, none, true⟩,
 ⟨.call (.f 105) [(.t 17), (.c (.int .i64 0))], some 18, none, false⟩,
 ⟨.mov (.t 0), some 19, none, true⟩,
 ⟨.call (.f 65) [(.t 19)], some 20, none, false⟩,
 ⟨.buildSlice 5 [(.int .i64 0), (.int .i64 0), (.str []), (.int .i64 0), .nilsl] 2 [(0, (.t 18)), (1, (.t 20))] false, some 21, none, true⟩,
 ⟨.fieldAddr 4 (.t 3), some 22, none, true⟩,
 ⟨.store 1 (.t 22) (.t 21), none, none, false⟩])
 (.seq (.ops [⟨.load (some 5) (.t 3), some 23, none, false⟩,
 ⟨.store 5 (.t 2) (.t 23), none, none, false⟩])
 (.ret))))
 (.seq (.ops [⟨.mov (.t 0), some 25, none, true⟩,
 ⟨.call (.f 60) [(.t 25), (.c (.str [114, 101, 116, 117, 114, 110]))], some 26, none, false⟩,
 ⟨.mov (.t 26), some 24, none, true⟩])
 (.cond (.t 24)
 (.seq (.ops [⟨.mov (.t 0), some 27, none, true⟩,
 ⟨.call (.f 106) [(.t 27), (.c (.int .i64 11)), (.c (.str []))], some 28, none, false⟩,
 ⟨.store 5 (.t 2) (.t 28), none, none, false⟩])
 (.ret))
 (.seq (.ops [⟨.mov (.t 0), some 30, none, true⟩,
 ⟨.call (.f 60) [(.t 30), (.c (.str [97, 115, 115, 101, 114, 116]))], some 31, none, false⟩,
 ⟨.mov (.t 31), some 29, none, true⟩])
 (.cond (.t 29)
 (.seq (.ops [⟨.mov (.t 0), some 32, none, true⟩,
 ⟨.call (.f 106) [(.t 32), (.c (.int .i64 12)), (.c (.str []))], some 33, none, false⟩,
 ⟨.store 5 (.t 2) (.t 33), none, none, false⟩])
 (.ret))
 (.seq (.ops [⟨.mov (.t 0), some 35, none, true⟩,
 ⟨.call (.f 60) [(.t 35), (.c (.str [115, 107, 105, 112]))], some 36, none, false⟩,
 ⟨.mov (.t 36), some 34, none, true⟩])
 (.cond (.t 34)
 (.seq (.ops [⟨.mov (.t 0), some 37, none, true⟩,
 ⟨.call (.f 63) [(.t 37), (.c (.str [59]))], some 38, none, false⟩])
 (.seq (.ops [⟨.mov (.t 0), some 39, none, true⟩,
 ⟨.build [(.int .i64 0), (.int .i64 0), (.str []), (.int .i64 0), .nilsl] [(0, 1, (.c (.int .i64 14)))], some 40, none, true⟩,
 ⟨.call (.f 32) [(.t 39), (.t 40)], some 41, none, false⟩,
 ⟨.store 5 (.t 2) (.t 41), none, none, false⟩])
 (.ret)))
 (.skip))))))))))))
 (.seq (.ops [⟨.mov (.t 0), some 42, none, true⟩,
 ⟨.call (.f 61) [(.t 42)], some 43, none, false⟩,
 ⟨.mov (.t 43), some 4, none, true⟩])
 (.seq (.block 1 (.seq (.ops [⟨.mov (.t 0), some 45, none, true⟩,
 ⟨.call (.f 60) [(.t 45), (.c (.str [58, 61]))], some 46, none, false⟩,
 ⟨.mov (.t 46), some 44, none, true⟩])
 (.cond (.t 44)
 (.seq (.ops [⟨.mov (.t 0), some 47, none, true⟩,
 ⟨.mov (.t 4), some 48, none, true⟩,
 ⟨.call (.f 106) [(.t 47), (.c (.int .i64 7)), (.t 48)], some 49, none, false⟩,
 ⟨.store 5 (.t 2) (.t 49), none, none, false⟩])
 (.ret))
 (.seq (.ops [⟨.mov (.t 0), some 51, none, true⟩,
 ⟨.call (.f 60) [(.t 51), (.c (.str [61]))], some 52, none, false⟩,
 ⟨.mov (.t 52), some 50, none, true⟩])
 (.cond (.t 50)
 (.seq (.ops [⟨.mov (.t 0), some 53, none, true⟩,
 ⟨.mov (.t 4), some 54, none, true⟩,
 ⟨.call (.f 106) [(.t 53), (.c (.int .i64 8)), (.t 54)], some 55, none, false⟩,
 ⟨.store 5 (.t 2) (.t 55), none, none, false⟩])
 (.ret))
 (.skip))))))
 (.seq (.ops [⟨.mov (.t 0), some 56, none, true⟩,
 ⟨.build [(.int .i64 0), (.int .i64 0), (.str []), (.int .i64 0), .nilsl] [(0, 1, (.c (.int .i64 13)))], some 57, none, true⟩,
 ⟨.call (.f 32) [(.t 56), (.t 57)], some 58, none, false⟩,
 ⟨.alloc [(.int .i64 0), (.int .i64 0), (.str []), (.int .i64 0), .nilsl], some 5, none, false⟩,
 ⟨.store 5 (.t 5) (.t 58), none, none, false⟩])
 (.seq (.ops [⟨.mov (.t 0), some 59, none, true⟩,
 ⟨.mov (.t 4), some 60, none, true⟩,
 ⟨.call (.f 107) [(.t 59), (.t 60)], some 61, none, false⟩,
 ⟨.buildSlice 5 [(.int .i64 0), (.int .i64 0), (.str []), (.int .i64 0), .nilsl] 1 [(0, (.t 61))] false, some 62, none, true⟩,
 ⟨.fieldAddr 4 (.t 5), some 63, none, true⟩,
 ⟨.store 1 (.t 63) (.t 62), none, none, false⟩])
 (.seq (.ops [⟨.mov (.t 0), some 64, none, true⟩,
 ⟨.call (.f 63) [(.t 64), (.c (.str [59]))], some 65, none, false⟩])
 (.seq (.ops [⟨.load (some 5) (.t 5), some 66, none, false⟩,
 ⟨.store 5 (.t 2) (.t 66), none, none, false⟩])
 (.ret))))))))
theorem st87p : stmOf Tryz.prog 87 p87p = some (s87p, [.cell 2 (some 5)], 67) := by kernel_rfl
def cSimple (G : List Tok → PRec) (args : List D) (h : AHeap) (K E : D → AHeap → Prop) : Prop := ∃ (l : List Tok) (s : PS) (id : Nat) (k : Int) (x : List UInt8), args = [.ptr id 1 0, .int .i64 k, .str x] ∧ WOk l ∧ cP (pSimple l (G l) k x) encN l s id h K E
theorem cSimple_mono (G : List Tok → PRec) (args : List D) (h : AHeap) (K E K' E' : D → AHeap → Prop) (hk : ∀ d h, K d h → K' d h) (he : ∀ d h, E d h → E' d h) (c : cSimple G args h K E) : cSimple G args h K' E' := by
  obtain ⟨l, s, id, k, x, a, b, c⟩ := c
  exact ⟨l, s, id, k, x, a, b, cP_mono hk he c⟩
theorem cSimple_ok (G : List Tok → PRec) (hT : (tbG G).ok Tryz.prog) (args : List D) (h : AHeap) (K E : D → AHeap → Prop) (c : cSimple G args h K E) : ACalls Tryz.prog 106 args h (AOut.to K E) := by
  obtain ⟨l, s, id, k, x, rfl, hl, c⟩ := c
  exact cP_ok (fun ok K0 E0 hw => simple_c G hT l hl s id k x ok K0 E0 hw) c
def tbS (G : List Tok → PRec) : Tab := (tbG G).addE 106 (cSimple G) (cSimple_mono G)
theorem tbS_q {G : List Tok → PRec} : (tbS G).q = (tbG G).q := rfl
theorem tbS_a {G : List Tok → PRec} : (tbS G).a = (tbG G).a := rfl
theorem tbS_c {G : List Tok → PRec} (g : FuncId) (args : List D) (h : AHeap) (K E : D → AHeap → Prop) : (tbS G).c g args h K E = if g = 106 then cSimple G args h K E else (tbG G).c g args h K E := rfl
theorem tbS_e : type_of% (And.intro @tbS_q (And.intro @tbS_a @tbS_c)) := And.intro @tbS_q (And.intro @tbS_a @tbS_c)
theorem tbS_ok (G : List Tok → PRec) (hT : (tbG G).ok Tryz.prog) : (tbS G).ok Tryz.prog := Tab.addE_ok hT (cSimple_ok G hT)
set_option maxHeartbeats 1000000 in
theorem stmt_c (G : List Tok → PRec) (hG : ∀ l, PKeep (G l)) (hT : (tbG G).ok Tryz.prog) (l : List Tok) (hl : WOk l) (s : PS) (i1 : Nat) (ok : PSok l s) (K0 : Nd → PS → Prop) (E0 : Int → Int → Prop) (hw : wpR (stmtG l (G l) s) (fun x s' => PSok l s' → K0 x s') E0) : ACalls Tryz.prog 87 [.ptr i1 1 0] (AHeap.emp.set i1 (pObj l s)) (retP encN l i1 K0 E0) := by
  refine ACalls.of_stmD (tbS_ok G hT) (dc := DTab.none) (fun _ _ => DTab.none_ok) (by kernel_rfl) st87p (by simp) ?_
  rw [vc_todo]
  have hp := fun (h : AHeap) (j : Nat) (B C : AObj) => push_id (id := i1) h j B C
  unfold stmtG at hw
  rw [wpR_bind] at hw
  simp (maxSteps := 1000000) only [s87p, tbS_e, hp, hp, len_enc, enc_ok, enc_unnil, part_enc, take5, set5, setE, retD_ret, retD_normal, leav_nil, leav_func, finD, tbG_e, tb64p_e, zzK, seval]
  intro i2 a2_1 b2_1
  refine ⟨l, s, i1, wIf, rfl, hl.lo, (by simp [a2_1, b2_1]), ok, wpR_mono' (fun b s1p e1 k ok1 => ?_) (fun a e k s' => ?_) hw⟩
  case refine_2 =>
    simp only [panD, leav_nil, finD]
    exact mid_pan (s' := s') (by simp [a2_1, b2_1]) k
  cases b with
  | true =>
    rw [cond_true] at k
    simp (maxSteps := 1000000) only [tbS_e, hp, a2_1, b2_1, len_enc, enc_ok, enc_unnil, part_enc, take5, set5, setE, retD_ret, retD_normal, leav_nil, leav_func, finD, tbG_e, tb64p_e, zzK, seval]
    refine ⟨l, s1p, i1, rfl, hl, (by simp [a2_1, b2_1]), ok1, wpR_mono' (fun n t1 f1 k okt => ?_) (fun a e k s' => ?_) k⟩
    case refine_2 =>
      simp only [panD, leav_nil, finD]
      exact mid_pan (s' := s') (by simp [a2_1, b2_1]) k
    simp (maxSteps := 1000000) only [encN, tbS_e, hp, a2_1, b2_1, len_enc, enc_ok, enc_unnil, part_enc, take5, set5, setE, retD_ret, retD_normal, leav_nil, leav_func, finD, tbG_e, tb64p_e, zzK, seval]
    exact mid_ret (x := n) (s' := t1) rfl (by simp [a2_1, b2_1]) (k okt)
  | false =>
  rw [cond_false, wpR_bind] at k
  simp (maxSteps := 1000000) only [tbS_e, hp, a2_1, b2_1, len_enc, enc_ok, enc_unnil, part_enc, take5, set5, setE, retD_ret, retD_normal, leav_nil, leav_func, finD, tbG_e, tb64p_e, zzK, seval]
  refine ⟨l, s1p, i1, wFor, rfl, hl.lo, (by simp [a2_1, b2_1]), ok1, wpR_mono' (fun b s2p e2 k ok2 => ?_) (fun a e k s' => ?_) k⟩
  case refine_2 =>
    simp only [panD, leav_nil, finD]
    exact mid_pan (s' := s') (by simp [a2_1, b2_1]) k
  cases b with
  | true =>
    rw [cond_true, wpR_bind] at k
    simp (maxSteps := 1000000) only [tbS_e, hp, a2_1, b2_1, len_enc, enc_ok, enc_unnil, part_enc, take5, set5, setE, retD_ret, retD_normal, leav_nil, leav_func, finD, tbG_e, tb64p_e, zzK, seval]
    refine .inl ⟨l, s2p, i1, .mk 10 0 [] 0 [], by simp only [enc_mk, encs_nil], hl.lo, (by simp [a2_1, b2_1]), ok2, wpR_mono' (fun n s3p e3 k ok3 => ?_) (fun a e k s' => ?_) k⟩
    case refine_2 =>
      simp only [panD, leav_nil, finD]
      exact mid_pan (s' := s') (by simp [a2_1, b2_1]) k
    obtain ⟨nk, nt, ns, nm, nl⟩ := n
    rw [wpR_bind] at k
    simp (maxSteps := 1000000) only [encN, enc_mk, tbS_e, hp, a2_1, b2_1, len_enc, enc_ok, enc_unnil, part_enc, take5, set5, setE, retD_ret, retD_normal, leav_nil, leav_func, finD, tbG_e, tb64p_e, zzK, seval]
    intro i3 a3_2 b3_2 a3_1 b3_1
    refine ⟨l, s3p, i1, 0, rfl, hl, (by simp [a2_1, b2_1, a3_2, b3_2, a3_1, b3_1]), ok3, wpR_mono' (fun x s4p e4 k ok4 => ?_) (fun a e k s' => ?_) k⟩
    case refine_2 =>
      simp only [panD, leav_nil, finD]
      exact mid_pan (s' := s') (by simp [a2_1, b2_1, a3_2, b3_2, a3_1, b3_1]) k
    rw [wpR_bind] at k
    simp (maxSteps := 1000000) only [encN, tbS_e, hp, a2_1, b2_1, a3_2, b3_2, a3_1, b3_1, len_enc, enc_ok, enc_unnil, part_enc, take5, set5, setE, retD_ret, retD_normal, leav_nil, leav_func, finD, tbG_e, tb64p_e, zzK, seval]
    refine ⟨l, s4p, i1, rfl, hl, (by simp [a2_1, b2_1, a3_2, b3_2, a3_1, b3_1]), ok4, wpR_mono' (fun y s5p e5 k ok5 => ?_) (fun a e k s' => ?_) k⟩
    case refine_2 =>
      simp only [panD, leav_nil, finD]
      exact mid_pan (s' := s') (by simp [a2_1, b2_1, a3_2, b3_2, a3_1, b3_1]) k
    rw [wpR_ok] at k
    simp (maxSteps := 1000000) only [encN, tbS_e, hp, a2_1, b2_1, a3_2, b3_2, a3_1, b3_1, len_enc, enc_ok, enc_unnil, part_enc, take5, set5, setE, retD_ret, retD_normal, leav_nil, leav_func, finD, tbG_e, tb64p_e, zzK, seval]
    exact mid_ret (x := .mk nk nt ns nm [x, y]) (s' := s5p) (by rw [encN, enc_mk, encs_cons, encs_cons, encs_nil]) (by simp [a2_1, b2_1, a3_2, b3_2, a3_1, b3_1]) (k ok5)
  | false =>
  rw [cond_false, wpR_bind] at k
  simp (maxSteps := 1000000) only [tbS_e, hp, a2_1, b2_1, len_enc, enc_ok, enc_unnil, part_enc, take5, set5, setE, retD_ret, retD_normal, leav_nil, leav_func, finD, tbG_e, tb64p_e, zzK, seval]
  refine ⟨l, s2p, i1, wReturn, rfl, hl.lo, (by simp [a2_1, b2_1]), ok2, wpR_mono' (fun b s3p e3 k ok3 => ?_) (fun a e k s' => ?_) k⟩
  case refine_2 =>
    simp only [panD, leav_nil, finD]
    exact mid_pan (s' := s') (by simp [a2_1, b2_1]) k
  cases b with
  | true =>
    rw [cond_true] at k
    simp (maxSteps := 1000000) only [tbS_e, hp, a2_1, b2_1, len_enc, enc_ok, enc_unnil, part_enc, take5, set5, setE, retD_ret, retD_normal, leav_nil, leav_func, finD, tbG_e, tb64p_e, zzK, seval]
    refine ⟨l, s3p, i1, 11, [], rfl, hl, (by simp [a2_1, b2_1]), ok3, wpR_mono' (fun n t1 f1 k okt => ?_) (fun a e k s' => ?_) k⟩
    case refine_2 =>
      simp only [panD, leav_nil, finD]
      exact mid_pan (s' := s') (by simp [a2_1, b2_1]) k
    simp (maxSteps := 1000000) only [encN, tbS_e, hp, a2_1, b2_1, len_enc, enc_ok, enc_unnil, part_enc, take5, set5, setE, retD_ret, retD_normal, leav_nil, leav_func, finD, tbG_e, tb64p_e, zzK, seval]
    exact mid_ret (x := n) (s' := t1) rfl (by simp [a2_1, b2_1]) (k okt)
  | false =>
  rw [cond_false, wpR_bind] at k
  simp (maxSteps := 1000000) only [tbS_e, hp, a2_1, b2_1, len_enc, enc_ok, enc_unnil, part_enc, take5, set5, setE, retD_ret, retD_normal, leav_nil, leav_func, finD, tbG_e, tb64p_e, zzK, seval]
  refine ⟨l, s3p, i1, wAssert, rfl, hl.lo, (by simp [a2_1, b2_1]), ok3, wpR_mono' (fun b s4p e4 k ok4 => ?_) (fun a e k s' => ?_) k⟩
  case refine_2 =>
    simp only [panD, leav_nil, finD]
    exact mid_pan (s' := s') (by simp [a2_1, b2_1]) k
  cases b with
  | true =>
    rw [cond_true] at k
    simp (maxSteps := 1000000) only [tbS_e, hp, a2_1, b2_1, len_enc, enc_ok, enc_unnil, part_enc, take5, set5, setE, retD_ret, retD_normal, leav_nil, leav_func, finD, tbG_e, tb64p_e, zzK, seval]
    refine ⟨l, s4p, i1, 12, [], rfl, hl, (by simp [a2_1, b2_1]), ok4, wpR_mono' (fun n t1 f1 k okt => ?_) (fun a e k s' => ?_) k⟩
    case refine_2 =>
      simp only [panD, leav_nil, finD]
      exact mid_pan (s' := s') (by simp [a2_1, b2_1]) k
    simp (maxSteps := 1000000) only [encN, tbS_e, hp, a2_1, b2_1, len_enc, enc_ok, enc_unnil, part_enc, take5, set5, setE, retD_ret, retD_normal, leav_nil, leav_func, finD, tbG_e, tb64p_e, zzK, seval]
    exact mid_ret (x := n) (s' := t1) rfl (by simp [a2_1, b2_1]) (k okt)
  | false =>
  rw [cond_false, wpR_bind] at k
  simp (maxSteps := 1000000) only [tbS_e, hp, a2_1, b2_1, len_enc, enc_ok, enc_unnil, part_enc, take5, set5, setE, retD_ret, retD_normal, leav_nil, leav_func, finD, tbG_e, tb64p_e, zzK, seval]
  refine ⟨l, s4p, i1, wSkip, rfl, hl.lo, (by simp [a2_1, b2_1]), ok4, wpR_mono' (fun b s5p e5 k ok5 => ?_) (fun a e k s' => ?_) k⟩
  case refine_2 =>
    simp only [panD, leav_nil, finD]
    exact mid_pan (s' := s') (by simp [a2_1, b2_1]) k
  cases b with
  | true =>
    rw [cond_true, wpR_bind] at k
    simp (maxSteps := 1000000) only [tbS_e, hp, a2_1, b2_1, len_enc, enc_ok, enc_unnil, part_enc, take5, set5, setE, retD_ret, retD_normal, leav_nil, leav_func, finD, tbG_e, tb64p_e, zzK, seval]
    refine ⟨l, s5p, i1, [59], rfl, hl.lo, (by simp [a2_1, b2_1]), ok5, wpR_mono' (fun _ s6p e6 k ok6 => ?_) (fun a e k s' => ?_) k⟩
    case refine_2 =>
      simp only [panD, leav_nil, finD]
      exact mid_pan (s' := s') (by simp [a2_1, b2_1]) k
    simp (maxSteps := 1000000) only [tbS_e, hp, a2_1, b2_1, len_enc, enc_ok, enc_unnil, part_enc, take5, set5, setE, retD_ret, retD_normal, leav_nil, leav_func, finD, tbG_e, tb64p_e, zzK, seval]
    refine .inl ⟨l, s6p, i1, .mk 14 0 [] 0 [], by simp only [enc_mk, encs_nil], hl.lo, (by simp [a2_1, b2_1]), ok6, wpR_mono' (fun n t1 f1 k okt => ?_) (fun a e k s' => ?_) k⟩
    case refine_2 =>
      simp only [panD, leav_nil, finD]
      exact mid_pan (s' := s') (by simp [a2_1, b2_1]) k
    simp (maxSteps := 1000000) only [encN, tbS_e, hp, a2_1, b2_1, len_enc, enc_ok, enc_unnil, part_enc, take5, set5, setE, retD_ret, retD_normal, leav_nil, leav_func, finD, tbG_e, tb64p_e, zzK, seval]
    exact mid_ret (x := n) (s' := t1) rfl (by simp [a2_1, b2_1]) (k okt)
  | false =>
  rw [cond_false, wpR_bind] at k
  simp (maxSteps := 1000000) only [tbS_e, hp, a2_1, b2_1, len_enc, enc_ok, enc_unnil, part_enc, take5, set5, setE, retD_ret, retD_normal, leav_nil, leav_func, finD, tbG_e, tb64p_e, zzK, seval]
  refine ⟨l, s5p, i1, rfl, hl.lo, (by simp [a2_1, b2_1]), ok5, wpR_mono' (fun x s6p e6 k ok6 => ?_) (fun a e k s' => ?_) k⟩
  case refine_2 =>
    simp only [panD, leav_nil, finD]
    exact mid_pan (s' := s') (by simp [a2_1, b2_1]) k
  rw [wpR_bind] at k
  simp (maxSteps := 1000000) only [tbS_e, hp, a2_1, b2_1, len_enc, enc_ok, enc_unnil, part_enc, take5, set5, setE, retD_ret, retD_normal, leav_nil, leav_func, finD, tbG_e, tb64p_e, zzK, seval]
  refine ⟨l, s6p, i1, [58, 61], rfl, hl.lo, (by simp [a2_1, b2_1]), ok6, wpR_mono' (fun b s7p e7 k ok7 => ?_) (fun a e k s' => ?_) k⟩
  case refine_2 =>
    simp only [panD, leav_nil, finD]
    exact mid_pan (s' := s') (by simp [a2_1, b2_1]) k
  cases b with
  | true =>
    rw [cond_true] at k
    simp (maxSteps := 1000000) only [tbS_e, hp, a2_1, b2_1, len_enc, enc_ok, enc_unnil, part_enc, take5, set5, setE, retD_ret, retD_normal, leav_nil, leav_func, finD, tbG_e, tb64p_e, zzK, seval]
    refine ⟨l, s7p, i1, 7, x, rfl, hl, (by simp [a2_1, b2_1]), ok7, wpR_mono' (fun n t1 f1 k okt => ?_) (fun a e k s' => ?_) k⟩
    case refine_2 =>
      simp only [panD, leav_nil, finD]
      exact mid_pan (s' := s') (by simp [a2_1, b2_1]) k
    simp (maxSteps := 1000000) only [encN, tbS_e, hp, a2_1, b2_1, len_enc, enc_ok, enc_unnil, part_enc, take5, set5, setE, retD_ret, retD_normal, leav_nil, leav_func, finD, tbG_e, tb64p_e, zzK, seval]
    exact mid_ret (x := n) (s' := t1) rfl (by simp [a2_1, b2_1]) (k okt)
  | false =>
  rw [cond_false, wpR_bind] at k
  simp (maxSteps := 1000000) only [tbS_e, hp, a2_1, b2_1, len_enc, enc_ok, enc_unnil, part_enc, take5, set5, setE, retD_ret, retD_normal, leav_nil, leav_func, finD, tbG_e, tb64p_e, zzK, seval]
  refine ⟨l, s7p, i1, [61], rfl, hl.lo, (by simp [a2_1, b2_1]), ok7, wpR_mono' (fun b s8p e8 k ok8 => ?_) (fun a e k s' => ?_) k⟩
  case refine_2 =>
    simp only [panD, leav_nil, finD]
    exact mid_pan (s' := s') (by simp [a2_1, b2_1]) k
  cases b with
  | true =>
    rw [cond_true] at k
    simp (maxSteps := 1000000) only [tbS_e, hp, a2_1, b2_1, len_enc, enc_ok, enc_unnil, part_enc, take5, set5, setE, retD_ret, retD_normal, leav_nil, leav_func, finD, tbG_e, tb64p_e, zzK, seval]
    refine ⟨l, s8p, i1, 8, x, rfl, hl, (by simp [a2_1, b2_1]), ok8, wpR_mono' (fun n t1 f1 k okt => ?_) (fun a e k s' => ?_) k⟩
    case refine_2 =>
      simp only [panD, leav_nil, finD]
      exact mid_pan (s' := s') (by simp [a2_1, b2_1]) k
    simp (maxSteps := 1000000) only [encN, tbS_e, hp, a2_1, b2_1, len_enc, enc_ok, enc_unnil, part_enc, take5, set5, setE, retD_ret, retD_normal, leav_nil, leav_func, finD, tbG_e, tb64p_e, zzK, seval]
    exact mid_ret (x := n) (s' := t1) rfl (by simp [a2_1, b2_1]) (k okt)
  | false =>
  rw [cond_false, wpR_bind] at k
  simp (maxSteps := 1000000) only [tbS_e, hp, a2_1, b2_1, len_enc, enc_ok, enc_unnil, part_enc, take5, set5, setE, retD_ret, retD_normal, leav_nil, leav_func, finD, tbG_e, tb64p_e, zzK, seval]
  refine .inl ⟨l, s8p, i1, .mk 13 0 [] 0 [], by simp only [enc_mk, encs_nil], hl.lo, (by simp [a2_1, b2_1]), ok8, wpR_mono' (fun n s9p e9 k ok9 => ?_) (fun a e k s' => ?_) k⟩
  case refine_2 =>
    simp only [panD, leav_nil, finD]
    exact mid_pan (s' := s') (by simp [a2_1, b2_1]) k
  obtain ⟨nk, nt, ns, nm, nl⟩ := n
  rw [wpR_bind] at k
  simp (maxSteps := 1000000) only [encN, enc_mk, tbS_e, hp, a2_1, b2_1, len_enc, enc_ok, enc_unnil, part_enc, take5, set5, setE, retD_ret, retD_normal, leav_nil, leav_func, finD, tbG_e, tb64p_e, zzK, seval]
  intro i3 a3_2 b3_2 a3_1 b3_1
  refine ⟨l, s9p, i1, x, rfl, hl, (by simp [a2_1, b2_1, a3_2, b3_2, a3_1, b3_1]), ok9, wpR_mono' (fun y t1 f1 k okt => ?_) (fun a e k s' => ?_) k⟩
  case refine_2 =>
    simp only [panD, leav_nil, finD]
    exact mid_pan (s' := s') (by simp [a2_1, b2_1, a3_2, b3_2, a3_1, b3_1]) k
  rw [wpR_bind] at k
  simp (maxSteps := 1000000) only [encN, tbS_e, hp, a2_1, b2_1, a3_2, b3_2, a3_1, b3_1, len_enc, enc_ok, enc_unnil, part_enc, take5, set5, setE, retD_ret, retD_normal, leav_nil, leav_func, finD, tbG_e, tb64p_e, zzK, seval]
  refine ⟨l, t1, i1, [59], rfl, hl.lo, (by simp [a2_1, b2_1, a3_2, b3_2, a3_1, b3_1]), okt, wpR_mono' (fun _ t2 f2 k oku => ?_) (fun a e k s' => ?_) k⟩
  case refine_2 =>
    simp only [panD, leav_nil, finD]
    exact mid_pan (s' := s') (by simp [a2_1, b2_1, a3_2, b3_2, a3_1, b3_1]) k
  rw [wpR_ok] at k
  simp (maxSteps := 1000000) only [encN, tbS_e, hp, a2_1, b2_1, a3_2, b3_2, a3_1, b3_1, len_enc, enc_ok, enc_unnil, part_enc, take5, set5, setE, retD_ret, retD_normal, leav_nil, leav_func, finD, tbG_e, tb64p_e, zzK, seval]
  exact mid_ret (x := .mk nk nt ns nm [y]) (s' := t2) (by rw [encN, enc_mk, encs_cons, encs_nil]) (by simp [a2_1, b2_1, a3_2, b3_2, a3_1, b3_1]) (k oku)
end
end Go.Proofs.YtpagdhbmbnoddaaGreatDoor.Zz
