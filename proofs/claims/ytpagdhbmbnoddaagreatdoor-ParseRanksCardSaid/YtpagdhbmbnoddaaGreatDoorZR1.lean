/- A row of names with signs between them: its words, how it is parsed. -/
import Derived.Test.YtpagdhbmbnoddaaGreatDoorZP20
import Derived.Test.YtpagdhbmbnoddaaGreatDoorZP17
import Derived.Test.YtpagdhbmbnoddaaGreatDoorZH0
set_option linter.unnecessarySimpa false
namespace Go.Proofs.YtpagdhbmbnoddaaGreatDoor.Zz
set_option linter.unusedVariables false
set_option linter.unusedSimpArgs false
set_option maxRecDepth 20000
/-- Names with signs between them, as a tree. -/
inductive RT where
  | leaf (v : List UInt8)
  | node (s : List UInt8) (l r : RT)
def RT.nd : RT → Nd
  | .leaf v => .mk 23 0 v 0 []
  | .node s l r => .mk 26 0 s 0 [l.nd, r.nd]
def RT.names : RT → List (List UInt8)
  | .leaf v => [v]
  | .node s l r => l.names ++ r.names
def RT.sgs : RT → List (List UInt8)
  | .leaf _ => []
  | .node s l r => l.sgs ++ s :: r.sgs
/-- A tree that is cut at the last sign that binds most weakly. -/
def RT.Cut : RT → Prop
  | .leaf _ => True
  | .node s l r => l.Cut ∧ r.Cut ∧ (∀ x ∈ l.sgs, rankF s ≤ rankF x) ∧ (∀ x ∈ r.sgs, rankF s < rankF x)
/-- A row: signs, each with the name behind it. -/
abbrev Row := List (List UInt8 × List UInt8)
def rowW : Row → List Wd → List Wd
  | [], ws => ws
  | (s, v) :: r, ws => (5, s) :: (1, v) :: rowW r ws
theorem rowW_len : ∀ (r : Row) (ws : List Wd), (rowW r ws).length = 2 * r.length + ws.length
  | [], ws => by simp [rowW]
  | (s, v) :: r, ws => by simp only [rowW, List.length_cons, rowW_len r ws]; omega
/-- Signs between two. -/
def sgOk (s : List UInt8) : Prop := 1 ≤ rankF s ∧ rankF s ≤ 5 ∧ (s == [40]) = false
theorem semi_ok : rankF [59] = 0 ∧ (([59] : List UInt8) == [40]) = false := by decide
theorem rowW_head (r : Row) (hr : ∀ x ∈ r, sgOk x.1) (ws : List Wd) : ∃ sg r', rowW r ((5, [59]) :: ws) = (5, sg) :: r' ∧ (sg == [40]) = false := by
  cases r with
  | nil => exact ⟨_, _, rfl, semi_ok.2⟩
  | cons x r => obtain ⟨s, v⟩ := x; exact ⟨_, _, rfl, (hr (s, v) (by simp)).2.2⟩
/-- What a row that is parsed leaves: the signs ahead bind no more strongly. -/
def Stop (k : Int) (r : Row) : Prop := ∀ x, r.head? = some x → rankF x.1 ≤ k
theorem rank_nonneg (s : List UInt8) : 0 ≤ rankF s := by
  unfold rankF
  repeat' (rw [Bool.cond_eq_ite]; split)
  all_goals omega
/-- The loop of an expression, and the expression, told of rows. -/
theorem row_loop (ws : List Wd) : ∀ (N : Nat), (∀ (r : Row), r.length < N → ∀ (f : Nat) (k d : Int) (v : List UInt8) (m : Int), 0 ≤ k → k ≤ 5 → (∀ x ∈ r, sgOk x.1) → 7 - k ≤ f → d + 7 - k ≤ 40 → m + 1 + 2 * r.length ≤ 2000 →
      ∃ (t : RT) (r' : Row), (sF f).expr k d ((1, v) :: rowW r ((5, [59]) :: ws)) m = some (t.nd, rowW r' ((5, [59]) :: ws), m + 1 + 2 * t.sgs.length) ∧ t.Cut ∧ Stop k r' ∧ (∀ x ∈ t.sgs, k < rankF x) ∧ v :: r.map (·.2) = t.names ++ r'.map (·.2) ∧ r.map (·.1) = t.sgs ++ r'.map (·.1) ∧ (∀ x ∈ r', x ∈ r)) ∧
    (∀ (r : Row), r.length < N → ∀ (f : Nat) (k d : Int) (j : Nat) (n : RT) (m : Int), 0 ≤ k → (∀ x ∈ r, sgOk x.1) → 6 - k ≤ f → d + 6 - k ≤ 40 → r.length < j → m + 2 * r.length ≤ 2000 → n.Cut → (∀ x ∈ n.sgs, k < rankF x) → (∀ x ∈ n.sgs, ∀ y, r.head? = some y → rankF y.1 ≤ rankF x) →
      ∃ (t : RT) (r' : Row), sExprL (sF f) k d j n.nd (rowW r ((5, [59]) :: ws)) m = some (t.nd, rowW r' ((5, [59]) :: ws), m + 2 * (t.sgs.length - n.sgs.length)) ∧ n.sgs.length ≤ t.sgs.length ∧ t.Cut ∧ Stop k r' ∧ (∀ x ∈ t.sgs, k < rankF x) ∧ n.names ++ r.map (·.2) = t.names ++ r'.map (·.2) ∧ n.sgs ++ r.map (·.1) = t.sgs ++ r'.map (·.1) ∧ (∀ x ∈ r', x ∈ r))
  | 0 => ⟨fun r h => absurd h (Nat.not_lt_zero _), fun r h => absurd h (Nat.not_lt_zero _)⟩
  | N + 1 => by
    obtain ⟨ihE, ihL⟩ := row_loop ws N
    have hL : ∀ (r : Row), r.length < N + 1 → ∀ (f : Nat) (k d : Int) (j : Nat) (n : RT) (m : Int), 0 ≤ k → (∀ x ∈ r, sgOk x.1) → 6 - k ≤ f → d + 6 - k ≤ 40 → r.length < j → m + 2 * r.length ≤ 2000 → n.Cut → (∀ x ∈ n.sgs, k < rankF x) → (∀ x ∈ n.sgs, ∀ y, r.head? = some y → rankF y.1 ≤ rankF x) →
      ∃ (t : RT) (r' : Row), sExprL (sF f) k d j n.nd (rowW r ((5, [59]) :: ws)) m = some (t.nd, rowW r' ((5, [59]) :: ws), m + 2 * (t.sgs.length - n.sgs.length)) ∧ n.sgs.length ≤ t.sgs.length ∧ t.Cut ∧ Stop k r' ∧ (∀ x ∈ t.sgs, k < rankF x) ∧ n.names ++ r.map (·.2) = t.names ++ r'.map (·.2) ∧ n.sgs ++ r.map (·.1) = t.sgs ++ r'.map (·.1) ∧ (∀ x ∈ r', x ∈ r) := by
      intro r hrN f k d j n m hk hr hf hd hj hm hn hs hh
      obtain ⟨j, rfl⟩ : ∃ j', j = j' + 1 := ⟨j - 1, by omega⟩
      cases r with
      | nil =>
        refine ⟨n, [], ?_, Nat.le_refl _, hn, (fun x hx => by cases hx), hs, rfl, rfl, fun x hx => hx⟩
        show sExprL _ _ _ _ _ ((5, [59]) :: ws) _ = _
        rw [sExprL_stop (by rw [semi_ok.1]; exact hk)]
        rw [Int.sub_self, Int.mul_zero, Int.add_zero]; rfl
      | cons y r =>
        obtain ⟨sg, v⟩ := y
        by_cases hst : rankF sg ≤ k
        · refine ⟨n, (sg, v) :: r, ?_, Nat.le_refl _, hn, (fun x hx => by cases hx; exact hst), hs, rfl, rfl, fun x hx => hx⟩
          show sExprL _ _ _ _ _ ((5, sg) :: _) _ = _
          rw [sExprL_stop hst]
          rw [Int.sub_self, Int.mul_zero, Int.add_zero]; rfl
        · have hk' : k < rankF sg := Int.not_le.1 hst
          have hok := hr (sg, v) (by simp)
          obtain ⟨q1q, q2q, q3q⟩ := hok
          simp only [List.length_cons] at hrN hm hj
          show ∃ (t : RT) (r' : Row), sExprL _ _ _ _ _ ((5, sg) :: (1, v) :: rowW r ((5, [59]) :: ws)) _ = _ ∧ _
          rw [sExprL_go hk']
          obtain ⟨e, r1, a1, a2, a3, a4, a5, a6, a7⟩ := ihE r (by omega) f (rankF sg) d v m (by omega) q2q (fun x hx => hr x (by simp [hx])) (by omega) (by omega) (by omega)
          have hle : e.sgs.length + r1.length = r.length := by
            have := congrArg List.length a6
            simp only [List.length_map, List.length_append] at this
            omega
          rw [a1, Option.bind_some]
          simp only
          rw [sNode_lt (by omega), Option.bind_some]
          simp only
          have hcut : (RT.node sg n e).Cut := ⟨hn, a2, fun x hx => hh x hx (sg, v) rfl, a4⟩
          have hsg : ∀ x ∈ (RT.node sg n e).sgs, k < rankF x := fun x hx => by
            simp only [RT.sgs, List.mem_append, List.mem_cons] at hx
            rcases hx with h | rfl | h
            · exact hs x h
            · exact hk'
            · have := a4 x h; omega
          have hhd : ∀ x ∈ (RT.node sg n e).sgs, ∀ y, r1.head? = some y → rankF y.1 ≤ rankF x := fun x hx y hy => by
            have h1 := a3 y hy
            simp only [RT.sgs, List.mem_append, List.mem_cons] at hx
            rcases hx with h | rfl | h
            · have : rankF sg ≤ rankF x := hh x h (sg, v) rfl
              omega
            · exact h1
            · have := a4 x h; omega
          obtain ⟨t, r', b1, b2, b3, b4, b5, b6, b7, b8⟩ := ihL r1 (by omega) f k d j (.node sg n e) (m + 1 + 2 * e.sgs.length + 1) hk (fun x hx => hr x (by simp [a7 x hx])) hf hd (by omega) (by omega) hcut hsg hhd
          have hl : (RT.node sg n e).sgs.length = n.sgs.length + 1 + e.sgs.length := by simp only [RT.sgs, List.length_append, List.length_cons]; omega
          rw [show (Nd.mk 26 0 sg 0 [n.nd, e.nd]) = (RT.node sg n e).nd from rfl, b1]
          refine ⟨t, r', ?_, by omega, b3, b4, b5, ?_, ?_, fun x hx => by simp [a7 x (b8 x hx)]⟩
          · congr 3
            omega
          · rw [← b6, RT.names, List.append_assoc, ← a5]; rfl
          · rw [← b7, RT.sgs, List.append_assoc, List.cons_append, ← a6]; rfl
    refine ⟨?_, hL⟩
    intro r hrN f k d v m hk hk5 hr hf hd hm
    obtain ⟨f, rfl⟩ : ∃ f', f = f' + 2 := ⟨f - 2, by omega⟩
    have he : (sF (f + 2)).expr k d ((1, v) :: rowW r ((5, [59]) :: ws)) m = sExprL (sF (f + 1)) k (d + 1) ((rowW r ((5, [59]) :: ws)).length + 1) (RT.leaf v).nd (rowW r ((5, [59]) :: ws)) (m + 1) := by
      rw [sF_expr]
      unfold sExpr
      obtain ⟨sg, r', h1, h2⟩ := rowW_head r hr ws
      rw [sDeep_lt (by omega), sF_unary, sUnary_var _ (by rw [h1]; simp [sIs, h2]) (by omega), Option.bind_some]
      rfl
    obtain ⟨t, r', b1, b2, b3, b4, b5, b6, b7, b8⟩ := hL r hrN (f + 1) k (d + 1) _ (.leaf v) (m + 1) hk hr (by omega) (by omega) (show r.length < (rowW r ((5, [59]) :: ws)).length + 1 by rw [rowW_len]; omega) (by omega) trivial (fun x hx => by cases hx) (fun x hx => by cases hx)
    refine ⟨t, r', ?_, b3, b4, b5, b6, b7, b8⟩
    rw [he, b1]
    congr 3
/-- A whole row is one tree, cut as the ranks say. -/
theorem row_expr (ws : List Wd) (r : Row) (f : Nat) (d : Int) (v : List UInt8) (m : Int) (hr : ∀ x ∈ r, sgOk x.1) (hf : 7 ≤ f) (hd : d + 7 ≤ 40) (hm : m + 1 + 2 * r.length ≤ 2000) :
    ∃ t : RT, (sF f).expr 0 d ((1, v) :: rowW r ((5, [59]) :: ws)) m = some (t.nd, (5, [59]) :: ws, m + 1 + 2 * r.length) ∧ t.Cut ∧ t.names = v :: r.map (·.2) ∧ t.sgs = r.map (·.1) := by
  obtain ⟨t, r', a1, a2, a3, a4, a5, a6, a7⟩ := (row_loop ws (r.length + 1)).1 r (Nat.lt_succ_self _) f 0 d v m (Int.le_refl 0) (by omega) hr (by omega) (by omega) hm
  cases r' with
  | cons y r' =>
    have h1 := a3 y rfl
    have h2 := (hr y (a7 y (by simp))).1
    omega
  | nil =>
    simp only [List.map_nil, List.append_nil] at a5 a6
    have hl : t.sgs.length = r.length := by rw [← a6, List.length_map]
    rw [hl] at a1
    exact ⟨t, a1, a2, a5.symm, a6.symm⟩
/-! ### The text -/
def sgnL : List (List UInt8) := [[124, 124], [38, 38], [60], [60, 61], [62], [62, 61], [61, 61], [33, 61], [43], [45], [42], [47], [37]]
theorem sg_tok : ∀ s ∈ sgnL, (∀ rest, blankL (s ++ 32 :: rest) = 0 ∧ oneL (s ++ 32 :: rest) = (5, s, true)) ∧ s ≠ [] ∧ sgOk s ∧ s.length ≤ 2 := by
  intro s hs
  simp only [sgnL, List.mem_cons, List.not_mem_nil, or_false] at hs
  rcases hs with rfl | rfl | rfl | rfl | rfl | rfl | rfl | rfl | rfl | rfl | rfl | rfl | rfl
  all_goals exact ⟨fun rest => ⟨by kernel_rfl, by kernel_rfl⟩, by simp, ⟨by decide, by decide, by decide⟩, by decide⟩
def rowT : Row → List UInt8 → List UInt8
  | [], t => t
  | (s, v) :: r, t => 32 :: (s ++ 32 :: (v ++ rowT r t))
def rowOk (r : Row) : Prop := ∀ x ∈ r, x.1 ∈ sgnL ∧ ∃ c : UInt8, x.2 = [c] ∧ isLetter (c.toNat : Int) = true
theorem rowOk_sg {r : Row} (h : rowOk r) : ∀ x ∈ r, sgOk x.1 := fun x hx => (sg_tok _ (h x hx).1).2.2.1
theorem word_one (c : UInt8) : words.contains [c] = false := by simp [words]
theorem row_spn (r : Row) (tl : List UInt8) : spn nameP (rowT r (59 :: tl)) = 0 := by
  cases r with
  | nil => exact spn_zero (by decide)
  | cons x r => obtain ⟨s, v⟩ := x; exact spn_zero (by decide)
theorem tok_row (tl : List UInt8) (ws : List Wd) (h : TokB (59 :: tl) ws) : ∀ r : Row, rowOk r → TokB (rowT r (59 :: tl)) (rowW r ws)
  | [], _ => h
  | (s, v) :: r, hr => by
    obtain ⟨h1, c, h2, h3⟩ := hr (s, v) (by simp)
    simp only at h1 h2
    subst h2
    obtain ⟨g1, g2, _⟩ := sg_tok s h1
    refine TokB.sp (by decide) ?_
    refine TokB.word 5 s (32 :: ([c] ++ rowT r (59 :: tl))) rfl (g1 _).1 (g1 _).2 g2 (TokB.sp (by decide) ?_)
    exact TokB.name 1 c [] _ rfl h3 (by simp) (row_spn r tl) (.inr ⟨word_one c, rfl, by simp⟩) (tok_row tl ws h r fun x hx => hr x (by simp [hx]))
def rowProg (r : Row) : List UInt8 := 116 :: 101 :: 115 :: 116 :: 32 :: 116 :: 32 :: 123 :: 32 :: 97 :: 115 :: 115 :: 101 :: 114 :: 116 :: 32 :: 97 :: rowT r [59, 32, 125]
def rowPW (r : Row) : List Wd := (4, wTest) :: (1, [116]) :: (5, [123]) :: (4, wAssert) :: (1, [97]) :: rowW r [(5, [59]), (5, [125]), (0, [])]
theorem tok_rowProg (r : Row) (hr : rowOk r) : TokB (rowProg r) (rowPW r) := by
  unfold rowProg rowPW
  refine TokB.name 4 116 [101, 115, 116] _ rfl (by decide) (by decide) (spn_zero (by decide)) (.inl ⟨by decide, rfl⟩) (TokB.sp (by decide) ?_)
  refine TokB.name 1 116 [] _ rfl (by decide) (by simp) (spn_zero (by decide)) (.inr ⟨by decide, rfl, by decide⟩) (TokB.sp (by decide) ?_)
  refine TokB.word 5 [123] _ rfl (by kernel_rfl) (by kernel_rfl) (by simp) (TokB.sp (by decide) ?_)
  refine TokB.name 4 97 [115, 115, 101, 114, 116] _ rfl (by decide) (by decide) (spn_zero (by decide)) (.inl ⟨by decide, rfl⟩) (TokB.sp (by decide) ?_)
  refine TokB.name 1 97 [] _ rfl (by decide) (by simp) (row_spn r _) (.inr ⟨by decide, rfl, by decide⟩) (tok_row _ _ ?_ r hr)
  refine TokB.word 5 [59] _ rfl (by kernel_rfl) (by kernel_rfl) (by simp) (TokB.sp (by decide) ?_)
  exact TokB.word 5 [125] [] rfl (by kernel_rfl) (by kernel_rfl) (by simp) TokB.nil
theorem rowT_len (t : List UInt8) : ∀ r : Row, rowOk r → (rowT r t).length ≤ 5 * r.length + t.length
  | [], _ => by simp [rowT]
  | (s, v) :: r, hr => by
    obtain ⟨h1, c, h2, h3⟩ := hr (s, v) (by simp)
    simp only at h1 h2
    subst h2
    have h4 := (sg_tok s h1).2.2.2
    have ih := rowT_len t r fun x hx => hr x (by simp [hx])
    simp only [rowT, List.length_cons, List.length_append, List.length_nil]
    omega
def rowTree (t : RT) : Nd := .mk 1 0 [] 0 [.mk 4 0 [116] 0 [.mk 6 0 [] 0 [.mk 12 0 [] 0 [t.nd]]]]
theorem row_parse (r : Row) (hr : rowOk r) (hl : r.length ≤ 12) : ∃ t : RT, parseF 11 (rowProg r) = some (rowTree t, 0, 0) ∧ t.Cut ∧ t.names = [97] :: r.map (·.2) ∧ t.sgs = r.map (·.1) := by
  have hlen : (rowProg r).length ≤ 4096 := by
    have := rowT_len [59, 32, 125] r hr
    simp only [rowProg, List.length_cons, List.length_nil] at this ⊢
    omega
  obtain ⟨h1, h2⟩ := tokens_of (tok_rowProg r hr) hlen
  obtain ⟨t, a1, a2, a3, a4⟩ := row_expr [(5, [125]), (0, [])] r 9 (0 + 1) [97] (0 + 1 + 1 + 1 + 1) (rowOk_sg hr) (by omega) (by omega) (by omega)
  refine ⟨t, ?_, a2, a3, a4⟩
  refine parse_of (ws := [(0, [])]) (m := 0 + 1 + 1 + 1 + 1 + 1 + 2 * r.length) h1 ?_
  rw [h2]
  unfold sProg
  rw [sNode_lt (by omega), Option.bind_some]
  unfold rowPW
  simp only [List.length_cons, rowW_len, List.length_nil]
  unfold sProgL
  have hk : ∀ ws, (sKind ((4, wTest) :: ws) != 0) = true := fun ws => rfl
  have hv : ∀ ws, sIs wVar ((4, wTest) :: ws) = false := fun ws => by rw [sIs_kw]; decide
  rw [hk, hv]
  simp only [cond_true, cond_false]
  rw [show (decide ((0 : Int) > 16) || decide ((0 : Int) + 1 > 32)) = false from rfl, cond_false]
  have hdecl : sDecl (sF 11) 0 ((4, wTest) :: (1, [116]) :: (5, [123]) :: (4, wAssert) :: (1, [97]) :: rowW r [(5, [59]), (5, [125]), (0, [])]) (0 + 1) = some (Nd.mk 4 0 [116] 0 [Nd.mk 6 0 [] 0 [Nd.mk 12 0 [] 0 [t.nd]]], [((0 : Int), ([] : List UInt8))], (0 : Int) + 1 + 1 + 1 + 1 + 1 + 2 * r.length) := by
    unfold sDecl
    rw [sTake_no (by rw [sIs_kw]; decide), Option.bind_some]
    simp only [cond_false]
    rw [sTake_yes (by rw [sIs_kw]; decide), Option.bind_some]
    simp only [cond_true, List.tail_cons]
    rw [sName_yes, Option.bind_some]
    simp only
    rw [sNode_lt (by omega), Option.bind_some]
    simp only
    rw [show (11 : Nat) = 10 + 1 from rfl, sF_block]
    unfold sBlock
    rw [sDeep_lt (by omega), sMust_yes (by rw [sIs_sg]; decide), Option.bind_some]
    simp only [List.tail_cons]
    rw [sNode_lt (by omega), Option.bind_some]
    simp only [List.length_cons, rowW_len, List.length_nil]
    have hb : ∀ (j : Nat), sBlockL (sF 10) (0 + 1) (j + 2) (Nd.mk 6 0 [] 0 []) ((4, wAssert) :: (1, [97]) :: rowW r [(5, [59]), (5, [125]), (0, [])]) (0 + 1 + 1 + 1) = some (Nd.mk 6 0 [] 0 [Nd.mk 12 0 [] 0 [t.nd]], [((0 : Int), ([] : List UInt8))], (0 : Int) + 1 + 1 + 1 + 1 + 1 + 2 * r.length) := fun j => by
      show (sTake _ _ _).bind _ = _
      rw [sTake_no (by rw [sIs_kw]; decide), Option.bind_some]
      simp only [cond_false]
      rw [show decide ((Nd.mk 6 0 [] 0 []).kidsOf.length ≥ 32) = false from rfl]
      simp only [cond_false]
      rw [show (10 : Nat) = 9 + 1 from rfl, sF_stmt]
      unfold sStmt
      rw [sTake_no (by rw [sIs_kw]; decide), Option.bind_some]
      simp only [cond_false]
      rw [sTake_no (by rw [sIs_kw]; decide), Option.bind_some]
      simp only [cond_false]
      rw [sTake_no (by rw [sIs_kw]; decide), Option.bind_some]
      simp only [cond_false]
      rw [sTake_yes (by rw [sIs_kw]; decide), Option.bind_some]
      simp only [cond_true, List.tail_cons]
      unfold sSimple
      rw [sNode_lt (by omega), Option.bind_some]
      simp only
      have a1' : (sF 9).expr 0 (0 + 1) ((1, [97]) :: rowW r [(5, [59]), (5, [125]), (0, [])]) (0 + 1 + 1 + 1 + 1) = some (t.nd, [((5 : Int), ([59] : List UInt8)), (5, [125]), (0, [])], (0 : Int) + 1 + 1 + 1 + 1 + 1 + 2 * r.length) := by
        exact a1
      rw [a1', Option.bind_some]
      simp only
      rw [sMust_yes (by rw [sIs_sg]; decide), Option.bind_some]
      simp only [List.tail_cons, Nd.setKids, Nd.addKid, List.nil_append, Option.bind_some]
      show (sTake _ _ _).bind _ = _
      rw [sTake_yes (by rw [sIs_sg]; decide), Option.bind_some]
      simp only [cond_true, List.tail_cons]
    rw [hb, Option.bind_some]
    simp only [Nd.setKids]
  rw [hdecl, Option.bind_some]
  simp only [Nd.addKid, List.nil_append]
  rfl
end Go.Proofs.YtpagdhbmbnoddaaGreatDoor.Zz
/- Contracts: literals with a sign; the ranks of signs. -/
namespace Go.Proofs.YtpagdhbmbnoddaaGreatDoor.Zz
noncomputable section
set_option linter.unusedVariables false
set_option linter.unusedSimpArgs false
set_option maxRecDepth 20000
def p64p : Plan := ⟨⟨[], [(1, 1), (2, 1), (4, 1)], [], [], [], []⟩, [], [], false⟩
/-- (*cupel/parse.parser).literal (1 parameters, 0 captured) -/
def s64p : Stm :=
 .seq (.ops [⟨.alloc [(.int .i64 0), (.int .i64 0), (.str []), (.int .i64 0), .nilsl], (some 2), none, false⟩])
 (.seq (.ops [⟨.mov (.t 0), (some 6), none, true⟩,
 ⟨.call (.f 60) [(.t 6), (.c (.str [45]))], (some 7), none, false⟩,
 ⟨.mov (.t 7), (some 3), none, true⟩])
 (.seq (.ops [⟨.mov (.t 0), (some 9), none, true⟩,
 ⟨.call (.f 83) [(.t 9)], (some 10), none, false⟩,
 ⟨.mov (.t 10), (some 8), none, true⟩,
 ⟨.extract (.t 8) 0, (some 11), none, true⟩,
 ⟨.extract (.t 8) 1, (some 12), none, true⟩,
 ⟨.alloc [(.int .i64 0), (.int .i64 0), (.str []), (.int .i64 0), .nilsl], (some 4), none, false⟩,
 ⟨.store 5 (.t 4) (.t 11), none, none, false⟩,
 ⟨.mov (.t 12), (some 5), none, true⟩])
 (.seq (.seq (.ops [⟨.mov (.t 5), (some 13), none, true⟩,
 ⟨.un .not (.t 13), (some 14), none, true⟩,
 ⟨.mov (.t 14), (some 15), none, true⟩,
 ⟨.mov (.t 3), (some 16), (some (15, false)), true⟩,
 ⟨.mov (.t 16), (some 17), (some (15, false)), true⟩,
 ⟨.fieldAddr 0 (.t 4), (some 18), (some (17, true)), true⟩,
 ⟨.load none (.t 18), (some 19), (some (17, true)), false⟩,
 ⟨.bin .eql (.t 19) (.c (.int .i64 22)), (some 20), (some (17, true)), true⟩,
 ⟨.pick (.t 17) (.t 20) (.c (.bool false)), (some 21), (some (15, false)), true⟩,
 ⟨.pick (.t 15) (.c (.bool true)) (.t 21), (some 22), none, true⟩])
 (.cond (.t 22)
 (.ops [⟨.mov (.t 0), (some 23), none, true⟩,
 ⟨.call (.f 35) [(.t 23), (.c (.int .i64 110))], (some 24), none, false⟩])
 (.skip)))
 (.seq (.seq (.ops [⟨.mov (.t 3), (some 25), none, true⟩,
 ⟨.mov (.t 25), (some 26), none, true⟩,
 ⟨.fieldAddr 0 (.t 4), (some 27), (some (26, true)), true⟩,
 ⟨.load none (.t 27), (some 28), (some (26, true)), false⟩,
 ⟨.bin .eql (.t 28) (.c (.int .i64 20)), (some 29), (some (26, true)), true⟩,
 ⟨.pick (.t 26) (.t 29) (.c (.bool false)), (some 30), none, true⟩])
 (.cond (.t 30)
 (.ops [⟨.fieldAddr 3 (.t 4), (some 31), none, true⟩,
 ⟨.load none (.t 31), (some 32), none, false⟩,
 ⟨.un .neg (.t 32), (some 33), none, true⟩,
 ⟨.fieldAddr 3 (.t 4), (some 34), none, true⟩,
 ⟨.store 1 (.t 34) (.t 33), none, none, false⟩])
 (.skip)))
 (.seq (.seq (.ops [⟨.mov (.t 3), (some 35), none, true⟩,
 ⟨.mov (.t 35), (some 36), none, true⟩,
 ⟨.fieldAddr 0 (.t 4), (some 37), (some (36, true)), true⟩,
 ⟨.load none (.t 37), (some 38), (some (36, true)), false⟩,
 ⟨.bin .eql (.t 38) (.c (.int .i64 21)), (some 39), (some (36, true)), true⟩,
 ⟨.pick (.t 36) (.t 39) (.c (.bool false)), (some 40), none, true⟩])
 (.cond (.t 40)
 (.ops [⟨.fieldAddr 3 (.t 4), (some 41), none, true⟩,
 ⟨.load none (.t 41), (some 42), none, false⟩,
 ⟨.conv (.intInt .u64) (.t 42), (some 43), none, true⟩,
 ⟨.qcall (.f 85) [(.t 43)], (some 44), none, false⟩,
 ⟨.un .neg (.t 44), (some 45), none, true⟩,
 ⟨.qcall (.f 84) [(.t 45)], (some 46), none, false⟩,
 ⟨.conv (.intInt .i64) (.t 46), (some 47), none, true⟩,
 ⟨.fieldAddr 3 (.t 4), (some 48), none, true⟩,
 ⟨.store 1 (.t 48) (.t 47), none, none, false⟩])
 (.skip)))
 (.seq (.ops [⟨.load (some 5) (.t 4), (some 49), none, false⟩,
 ⟨.store 5 (.t 2) (.t 49), none, none, false⟩])
 (.ret)))))))
theorem st64p : stmOf Tryz.prog 64 p64p = some (s64p, [.cell 2 (some 5)], 50) := by kernel_rfl

def p132p : Plan := ⟨⟨[], [], [], [], [], []⟩, [], [], false⟩
/-- cupel/parse.rank (1 parameters, 0 captured) -/
def s132p : Stm :=
 .seq (.ops [⟨.mov (.c (.int .i64 0)), (some 2), none, true⟩])
 (.seq (.seq (.ops [⟨.mov (.t 0), (some 3), none, true⟩])
 (.block 0 (.seq (.ops [⟨.bin .eql (.t 3) (.c (.str [124, 124])), (some 5), none, true⟩,
 ⟨.mov (.t 5), (some 4), none, true⟩])
 (.cond (.t 4)
 (.seq (.ops [⟨.mov (.c (.int .i64 1)), (some 2), none, true⟩])
 (.ret))
 (.seq (.ops [⟨.bin .eql (.t 3) (.c (.str [38, 38])), (some 7), none, true⟩,
 ⟨.mov (.t 7), (some 6), none, true⟩])
 (.cond (.t 6)
 (.seq (.ops [⟨.mov (.c (.int .i64 2)), (some 2), none, true⟩])
 (.ret))
 (.seq (.seq (.ops [⟨.bin .eql (.t 3) (.c (.str [60])), (some 9), none, true⟩,
 ⟨.mov (.t 9), (some 8), none, true⟩])
 (.cond (.t 8)
 (.skip)
 (.seq (.ops [⟨.bin .eql (.t 3) (.c (.str [60, 61])), (some 10), none, true⟩,
 ⟨.mov (.t 10), (some 8), none, true⟩])
 (.cond (.t 8)
 (.skip)
 (.seq (.ops [⟨.bin .eql (.t 3) (.c (.str [62])), (some 11), none, true⟩,
 ⟨.mov (.t 11), (some 8), none, true⟩])
 (.cond (.t 8)
 (.skip)
 (.seq (.ops [⟨.bin .eql (.t 3) (.c (.str [62, 61])), (some 12), none, true⟩,
 ⟨.mov (.t 12), (some 8), none, true⟩])
 (.cond (.t 8)
 (.skip)
 (.seq (.ops [⟨.bin .eql (.t 3) (.c (.str [61, 61])), (some 13), none, true⟩,
 ⟨.mov (.t 13), (some 8), none, true⟩])
 (.cond (.t 8)
 (.skip)
 (.ops [⟨.bin .eql (.t 3) (.c (.str [33, 61])), (some 14), none, true⟩,
 ⟨.mov (.t 14), (some 8), none, true⟩])))))))))))
 (.cond (.t 8)
 (.seq (.ops [⟨.mov (.c (.int .i64 3)), (some 2), none, true⟩])
 (.ret))
 (.seq (.seq (.ops [⟨.bin .eql (.t 3) (.c (.str [43])), (some 16), none, true⟩,
 ⟨.mov (.t 16), (some 15), none, true⟩])
 (.cond (.t 15)
 (.skip)
 (.ops [⟨.bin .eql (.t 3) (.c (.str [45])), (some 17), none, true⟩,
 ⟨.mov (.t 17), (some 15), none, true⟩])))
 (.cond (.t 15)
 (.seq (.ops [⟨.mov (.c (.int .i64 4)), (some 2), none, true⟩])
 (.ret))
 (.seq (.seq (.ops [⟨.bin .eql (.t 3) (.c (.str [42])), (some 19), none, true⟩,
 ⟨.mov (.t 19), (some 18), none, true⟩])
 (.cond (.t 18)
 (.skip)
 (.seq (.ops [⟨.bin .eql (.t 3) (.c (.str [47])), (some 20), none, true⟩,
 ⟨.mov (.t 20), (some 18), none, true⟩])
 (.cond (.t 18)
 (.skip)
 (.ops [⟨.bin .eql (.t 3) (.c (.str [37])), (some 21), none, true⟩,
 ⟨.mov (.t 21), (some 18), none, true⟩])))))
 (.cond (.t 18)
 (.seq (.ops [⟨.mov (.c (.int .i64 5)), (some 2), none, true⟩])
 (.ret))
 (.skip)))))))))))))
 (.seq (.ops [⟨.mov (.c (.int .i64 0)), (some 2), none, true⟩])
 (.ret)))
theorem st132p : stmOf Tryz.prog 132 p132p = some (s132p, [.tmp 2], 22) := by kernel_rfl

theorem rank_c (s : List UInt8) : PCall Tryz.prog 132 [.str s] (.int .i64 (rankF s)) := by
  refine PCall.run (Tab.zero_ok _) st132p (by simp) fun E => ?_
  unfold rankF
  cases c1p : (s == [124, 124])
  case true => simp (config := {maxSteps := 1000000}) only [s132p, c1p, zzK, seval]
  cases c2p : (s == [38, 38])
  case true => simp (config := {maxSteps := 1000000}) only [s132p, c1p, c2p, zzK, seval]
  cases c3p : (s == [60])
  case true => simp (config := {maxSteps := 1000000}) only [s132p, c1p, c2p, c3p, zzK, seval]
  cases c4p : (s == [60, 61])
  case true => simp (config := {maxSteps := 1000000}) only [s132p, c1p, c2p, c3p, c4p, zzK, seval]
  cases c5p : (s == [62])
  case true => simp (config := {maxSteps := 1000000}) only [s132p, c1p, c2p, c3p, c4p, c5p, zzK, seval]
  cases c6p : (s == [62, 61])
  case true => simp (config := {maxSteps := 1000000}) only [s132p, c1p, c2p, c3p, c4p, c5p, c6p, zzK, seval]
  cases c7p : (s == [61, 61])
  case true => simp (config := {maxSteps := 1000000}) only [s132p, c1p, c2p, c3p, c4p, c5p, c6p, c7p, zzK, seval]
  cases c8p : (s == [33, 61])
  case true => simp (config := {maxSteps := 1000000}) only [s132p, c1p, c2p, c3p, c4p, c5p, c6p, c7p, c8p, zzK, seval]
  cases c9p : (s == [43])
  case true => simp (config := {maxSteps := 1000000}) only [s132p, c1p, c2p, c3p, c4p, c5p, c6p, c7p, c8p, c9p, zzK, seval]
  cases d1 : (s == [45])
  case true => simp (config := {maxSteps := 1000000}) only [s132p, c1p, c2p, c3p, c4p, c5p, c6p, c7p, c8p, c9p, d1, zzK, seval]
  cases d2 : (s == [42])
  case true => simp (config := {maxSteps := 1000000}) only [s132p, c1p, c2p, c3p, c4p, c5p, c6p, c7p, c8p, c9p, d1, d2, zzK, seval]
  cases d3 : (s == [47])
  case true => simp (config := {maxSteps := 1000000}) only [s132p, c1p, c2p, c3p, c4p, c5p, c6p, c7p, c8p, c9p, d1, d2, d3, zzK, seval]
  cases d4 : (s == [37])
  all_goals simp (config := {maxSteps := 1000000}) only [s132p, c1p, c2p, c3p, c4p, c5p, c6p, c7p, c8p, c9p, d1, d2, d3, d4, zzK, seval]
def q132p : List D → Option D
  | [.str s] => some (.int .i64 (rankF s))
  | _ => none
theorem q132p_ok (args : List D) (d : D) (h : q132p args = some d) : PCall Tryz.prog 132 args d := by
  unfold q132p at h
  split at h
  · cases h; exact rank_c _
  · cases h
theorem ext84 : extOk Tryz.prog 84 "math.Float64bits" = true := by kernel_rfl
theorem ext85 : extOk Tryz.prog 85 "math.Float64frombits" = true := by kernel_rfl
def tb132p : Tab := tb83p.addQ 132 q132p
theorem tb132p_q (g : FuncId) (args : List D) : tb132p.q g args = if g = 132 then q132p args else tb83p.q g args := rfl
theorem tb132p_a : tb132p.a = tb83p.a := rfl
theorem tb132p_c : tb132p.c = tb83p.c := rfl
theorem tb132p_ok : tb132p.ok Tryz.prog := Tab.addQ_ok tb83p_ok q132p_ok
theorem tb132p_e : type_of% (And.intro (And.intro @tb132p_q (And.intro @tb132p_a @tb132p_c)) @tb83p_e) := (And.intro (And.intro @tb132p_q (And.intro @tb132p_a @tb132p_c)) @tb83p_e)

def tb84p : Tab := tb132p.addQ 84 xBits
theorem tb84p_q (g : FuncId) (args : List D) : tb84p.q g args = if g = 84 then xBits args else tb132p.q g args := rfl
theorem tb84p_a : tb84p.a = tb132p.a := rfl
theorem tb84p_c : tb84p.c = tb132p.c := rfl
theorem tb84p_ok : tb84p.ok Tryz.prog := Tab.addX_ok tb132p_ok (xBits_ok ext84)
theorem tb84p_e : type_of% (And.intro (And.intro @tb84p_q (And.intro @tb84p_a @tb84p_c)) @tb132p_e) := (And.intro (And.intro @tb84p_q (And.intro @tb84p_a @tb84p_c)) @tb132p_e)

def tb85p : Tab := tb84p.addQ 85 xFrom
theorem tb85p_q (g : FuncId) (args : List D) : tb85p.q g args = if g = 85 then xFrom args else tb84p.q g args := rfl
theorem tb85p_a : tb85p.a = tb84p.a := rfl
theorem tb85p_c : tb85p.c = tb84p.c := rfl
theorem tb85p_ok : tb85p.ok Tryz.prog := Tab.addX_ok tb84p_ok (xFrom_ok ext85)
theorem tb85p_e : type_of% (And.intro (And.intro @tb85p_q (And.intro @tb85p_a @tb85p_c)) @tb84p_e) := (And.intro (And.intro @tb85p_q (And.intro @tb85p_a @tb85p_c)) @tb84p_e)

theorem lit_c (l : List Tok) (hl : WOk l) (s : PS) (id : Nat) (ok : PSok l s) (K0 : Nd → PS → Prop) (E0 : Int → Int → Prop) (hw : wpR (pLit l s) (fun x s' => PSok l s' → K0 x s') E0) : ACalls Tryz.prog 64 [.ptr id 1 0] (AHeap.emp.set id (pObj l s)) (retP (fun n : Nd => .agg n.enc) l id K0 E0) := by
  refine ACalls.of_stmD tb85p_ok (dc := DTab.none) (fun _ _ => DTab.none_ok) (by kernel_rfl) st64p (by simp) ?_
  rw [vc_todo]
  unfold pLit at hw
  rw [wpR_bind] at hw
  simp (config := {maxSteps := 1000000}) only [s64p, tb85p_e, zzK, seval]
  intro i2 n1 n2
  refine ⟨l, s, id, [45], rfl, hl.lo, by simp [n1, n2], ok, wpR_mono (fun mi s1p k ok1 => ?_) (fun a e k s' => ?_) hw⟩
  case refine_2 =>
    simp only [panD, leav_nil, finD]
    exact mid_pan (s' := s') (by simp [n1, n2]) k
  rw [wpR_bind] at k
  simp (config := {maxSteps := 1000000}) only [n1, n2, tb85p_e, zzK, seval]
  refine ⟨l, s1p, id, rfl, hl, by simp [n1, n2], ok1, wpR_mono (fun x s2p k ok2 => ?_) (fun a e k s' => ?_) k⟩
  case refine_2 =>
    simp only [panD, leav_nil, finD]
    exact mid_pan (s' := s') (by simp [n1, n2]) k
  obtain ⟨⟨nk, nt, ns, nm, nl⟩, b⟩ := x
  simp (config := {maxSteps := 1000000}) only [enc_mk, n1, n2, tb85p_e, zzK, seval]
  intro i4 m1 m2 m3 m4
  simp only [Nd.kind, Nd.setN, Nd.num] at k
  cases b with
  | false =>
    simp only [Bool.not_false, Bool.true_or, cond_true] at k
    simp (config := {maxSteps := 1000000}) only [n1, n2, m1, m2, m3, m4, Bool.not_false, tb85p_e, zzK, seval]
    refine ⟨l, s2p, id, 110, rfl, by simp [n1, n2, m1, m2, m3, m4], ok2.at_, ?_⟩
    simp only [panD, leav_nil, finD]
    exact mid_pan (s' := s2p) (by simp [n1, n2, m1, m2, m3, m4]) k
  | true =>
    cases mi with
    | false =>
      simp only [Bool.not_true, Bool.false_and, Bool.or_self, cond_false, wpR_ok] at k
      simp (config := {maxSteps := 1000000}) only [n1, n2, m1, m2, m3, m4, Bool.not_true, retD_ret, leav_nil, finD, tb85p_e, zzK, seval]
      exact mid_ret (x := .mk nk nt ns nm nl) (s' := s2p) (by rw [enc_mk]) (by simp [n1, n2, m1, m2, m3, m4]) (k ok2)
    | true =>
      simp only [Bool.not_true, Bool.true_and, Bool.false_or] at k
      cases c2p : (nk == 22) with
      | true =>
        rw [c2p, cond_true] at k
        simp (config := {maxSteps := 1000000}) only [c2p, n1, n2, m1, m2, m3, m4, Bool.not_true, tb85p_e, zzK, seval]
        refine ⟨l, s2p, id, 110, rfl, by simp [n1, n2, m1, m2, m3, m4], ok2.at_, ?_⟩
        simp only [panD, leav_nil, finD]
        exact mid_pan (s' := s2p) (by simp [n1, n2, m1, m2, m3, m4]) k
      | false =>
        rw [c2p, cond_false, wpR_ok] at k
        have k := k ok2
        cases c3p : (nk == 20) with
        | true =>
          have c4p : (nk == 21) = false := by simp at c3p ⊢; omega
          rw [c3p, cond_true] at k
          simp (config := {maxSteps := 1000000}) only [c2p, c3p, c4p, n1, n2, m1, m2, m3, m4, Bool.not_true, retD_ret, leav_nil, finD, tb85p_e, zzK, seval]
          exact mid_ret (x := .mk nk nt ns (IntKind.i64.wrap (0 - nm)) nl) (s' := s2p) (by rw [enc_mk]) (by simp [n1, n2, m1, m2, m3, m4]) k
        | false =>
          rw [c3p, cond_false] at k
          cases c4p : (nk == 21) with
          | true =>
            rw [c4p, cond_true] at k
            simp (config := {maxSteps := 1000000}) only [c2p, c3p, c4p, n1, n2, m1, m2, m3, m4, Bool.not_true, xBits, xFrom, retD_ret, leav_nil, finD, tb85p_e, zzK, seval]
            exact mid_ret (x := .mk nk nt ns (negB nm) nl) (s' := s2p) (by rw [enc_mk]; rfl) (by simp [n1, n2, m1, m2, m3, m4]) k
          | false =>
            rw [c4p, cond_false] at k
            simp (config := {maxSteps := 1000000}) only [c2p, c3p, c4p, n1, n2, m1, m2, m3, m4, Bool.not_true, retD_ret, leav_nil, finD, tb85p_e, zzK, seval]
            exact mid_ret (x := .mk nk nt ns nm nl) (s' := s2p) (by rw [enc_mk]) (by simp [n1, n2, m1, m2, m3, m4]) k
def cLit (args : List D) (h : AHeap) (K E : D → AHeap → Prop) : Prop := ∃ (l : List Tok) (s : PS) (id : Nat) , args = [.ptr id 1 0] ∧ WOk l ∧ cP (pLit l) (fun n : Nd => .agg n.enc) l s id h K E
theorem cLit_mono (args : List D) (h : AHeap) (K E K' E' : D → AHeap → Prop) (hk : ∀ d h, K d h → K' d h) (he : ∀ d h, E d h → E' d h) (c : cLit args h K E) : cLit args h K' E' := by
  obtain ⟨l, s, id, a, b, c⟩ := c
  exact ⟨l, s, id, a, b, cP_mono hk he c⟩
theorem cLit_ok (args : List D) (h : AHeap) (K E : D → AHeap → Prop) (c : cLit args h K E) : ACalls Tryz.prog 64 args h (AOut.to K E) := by
  obtain ⟨l, s, id, rfl, hl, c⟩ := c
  exact cP_ok (fun ok K0 E0 hw => lit_c l hl s id  ok K0 E0 hw) c

def tb64p : Tab := tb85p.addE 64 cLit cLit_mono
theorem tb64p_q : tb64p.q = tb85p.q := rfl
theorem tb64p_a : tb64p.a = tb85p.a := rfl
theorem tb64p_c (g : FuncId) (args : List D) (h : AHeap) (K E : D → AHeap → Prop) : tb64p.c g args h K E = if g = 64 then cLit args h K E else tb85p.c g args h K E := rfl
theorem tb64p_ok : tb64p.ok Tryz.prog := Tab.addE_ok tb85p_ok cLit_ok
theorem tb64p_e : type_of% (And.intro (And.intro @tb64p_q (And.intro @tb64p_a @tb64p_c)) @tb85p_e) := (And.intro (And.intro @tb64p_q (And.intro @tb64p_a @tb64p_c)) @tb85p_e)

end
end Go.Proofs.YtpagdhbmbnoddaaGreatDoor.Zz
/- Trees, plainly: their sizes, all their nodes. -/
namespace Go.Proofs.YtpagdhbmbnoddaaGreatDoor.Zz
set_option linter.unusedVariables false
set_option linter.unusedSimpArgs false
theorem cnts_take {l : List Nd} {i : Nat} {x : Nd} (h : l[i]? = some x) : Nd.cnts (l.take (i + 1)) = Nd.cnts (l.take i) + x.cnt := by
  rw [List.take_add_one, h, cnts_app]; simp [cnts_cons, cnts_nil]
theorem cnts_le (l : List Nd) (i : Nat) : Nd.cnts (l.take i) ≤ Nd.cnts l := by
  have := congrArg Nd.cnts (List.take_append_drop i l)
  rw [cnts_app] at this; omega
theorem cnts_len : ∀ l : List Nd, l.length ≤ Nd.cnts l
  | [] => Nat.zero_le _
  | x :: l => by have := cnts_len l; have := cnt_pos x; rw [cnts_cons, List.length_cons]; omega
mutual
/-- All nodes, by their places. -/
def listF : Nd → List Nd
  | .mk k t s n l => .mk k t s n l :: listFs l
def listFs : List Nd → List Nd
  | [] => []
  | x :: l => listF x ++ listFs l
end
theorem listF_mk (k t : Int) (s : List UInt8) (n : Int) (l : List Nd) : listF (.mk k t s n l) = .mk k t s n l :: listFs l := by rw [listF]
theorem listFs_nil : listFs [] = [] := by rw [listFs]
theorem listFs_cons (x : Nd) (l : List Nd) : listFs (x :: l) = listF x ++ listFs l := by rw [listFs]
theorem listFs_app (l r : List Nd) : listFs (l ++ r) = listFs l ++ listFs r := by
  induction l with
  | nil => rw [listFs_nil]; rfl
  | cons x l ih => rw [List.cons_append, listFs_cons, ih, listFs_cons, List.append_assoc]
theorem listFs_take {l : List Nd} {i : Nat} {x : Nd} (h : l[i]? = some x) : listFs (l.take (i + 1)) = listFs (l.take i) ++ listF x := by
  rw [List.take_add_one, h, listFs_app]; simp [listFs_cons, listFs_nil]
theorem listF_len : ∀ x : Nd, (listF x).length = x.cnt := by
  intro x
  induction x using Nd.ind with
  | h x ih =>
    obtain ⟨k, t, s, n, l⟩ := x
    have hk : ∀ l : List Nd, (∀ y ∈ l, (listF y).length = y.cnt) → (listFs l).length = Nd.cnts l := by
      intro l
      induction l with
      | nil => intro _; rw [listFs_nil, cnts_nil]; rfl
      | cons y l ih =>
        intro h
        rw [listFs_cons, cnts_cons, List.length_append, h y (by simp), ih (fun z hz => h z (by simp [hz]))]
    rw [listF_mk, cnt_mk, List.length_cons, hk l (fun y hy => ih y (cnt_kid hy))]
    omega
theorem cnts_mem_le {l : List Nd} {x : Nd} (h : x ∈ l) : x.cnt ≤ Nd.cnts l := by
  induction l with
  | nil => cases h
  | cons y l ih =>
    rw [cnts_cons]
    rcases List.mem_cons.1 h with e | e
    · subst e; omega
    · have := ih e; omega
theorem cnt_mem : ∀ (n x : Nd), x ∈ listF n → x.cnt ≤ n.cnt := by
  intro n
  induction n using Nd.rec (motive_2 := fun l => ∀ x ∈ listFs l, x.cnt ≤ Nd.cnts l) with
  | mk k t s m l ih =>
    intro x hx
    rw [listF_mk] at hx
    rcases List.mem_cons.1 hx with e | e
    · subst e; exact Nat.le_refl _
    · have := ih x e; rw [cnt_mk]; omega
  | nil => rename_i x hx; rw [listFs_nil] at hx; cases hx
  | cons y l ih1 ih2 =>
    rename_i x hx
    rw [listFs_cons] at hx
    rw [cnts_cons]
    rcases List.mem_append.1 hx with e | e
    · have := ih1 x e; omega
    · have := ih2 x e; omega
end Go.Proofs.YtpagdhbmbnoddaaGreatDoor.Zz
/- Contracts: how a tree is printed: its kids. -/
namespace Go.Proofs.YtpagdhbmbnoddaaGreatDoor.Zz
noncomputable section
set_option linter.unusedVariables false
set_option linter.unusedSimpArgs false
set_option maxRecDepth 20000
def p26rp : Plan := ⟨⟨[], [], [], [], [], []⟩, [], [], false⟩
/-- cupel/ast.kids (2 parameters, 0 captured) -/
def s26rp : Stm :=
 .seq (.ops [⟨.mov (.c (.str [])), (some 4), none, true⟩])
 (.seq (.ops [⟨.mov (.c .nilsl), (some 5), none, true⟩])
 (.seq (.seq (.ops [⟨.mov (.t 0), (some 8), none, true⟩,
 ⟨.len .sl (.t 8), (some 9), none, false⟩,
 ⟨.mov (.c (.int .i64 0)), (some 10), none, true⟩])
 (.block 0 (.loop (.seq (.ops [⟨.bin .lss (.t 10) (.t 9), (some 11), none, true⟩])
 (.seq (.cond (.t 11)
 (.skip)
 (.exit 0))
 (.seq (.block 1 (.seq (.ops [⟨.indexAddrS 5 (.t 8) (.t 10), (some 12), none, false⟩,
 ⟨.load (some 5) (.t 12), (some 13), none, false⟩,
 ⟨.alloc [(.int .i64 0), (.int .i64 0), (.str []), (.int .i64 0), .nilsl], (some 7), none, false⟩,
 ⟨.store 5 (.t 7) (.t 13), none, none, false⟩])
 (.ops [⟨.mov (.t 5), (some 14), none, true⟩,
 ⟨.load (some 5) (.t 7), (some 15), none, false⟩,
 ⟨.qcall (.f 12) [(.t 15)], (some 16), none, false⟩,
 ⟨.buildSlice 1 [(.str [])] 1 [(0, (.t 16))] false, (some 17), none, true⟩,
 ⟨.append 1 16 false (.t 14) (.t 17), (some 18), none, false⟩,
 ⟨.mov (.t 18), (some 5), none, true⟩])))
 (.ops [⟨.bin .add (.t 10) (.c (.int .i64 1)), (some 19), none, true⟩,
 ⟨.mov (.t 19), (some 10), none, true⟩])))))))
 (.seq (.ops [⟨.mov (.t 5), (some 20), none, true⟩,
 ⟨.mov (.t 1), (some 21), none, true⟩,
 ⟨.qcall (.f 47) [(.t 20), (.t 21)], (some 22), none, false⟩,
 ⟨.mov (.t 22), (some 4), none, true⟩])
 (.ret))))
theorem st26rp : stmOf Tryz.prog 26 p26rp = some (s26rp, [.tmp 4], 23) := by kernel_rfl

def exprW (k t : Int) (s : List UInt8) (m : Int) (ps : List (List UInt8)) : List UInt8 :=
  bif k == 20 then Lib.itoa m else bif k == 21 || k == 23 then s else bif k == 22 then (bif m == 0 then wFalse else wTrue)
  else bif k == 24 then s ++ [40] ++ Lib.join ps [44, 32] ++ [41] else bif k == 27 then typeN t ++ [40] ++ Lib.join ps [44, 32] ++ [41]
  else bif k == 25 then s ++ Lib.join ps [] else [40] ++ Lib.join ps (32 :: (s ++ [32])) ++ [41]
def stmtW (k : Int) (s : List UInt8) (ps : List (List UInt8)) : List UInt8 :=
  bif k == 6 then (if ps = [] then [123, 32, 125] else [123, 32] ++ Lib.join ps [32] ++ [32, 125])
  else bif k == 7 then s ++ [32, 58, 61, 32] ++ ps.getD 0 [] ++ [59] else bif k == 8 then s ++ [32, 61, 32] ++ ps.getD 0 [] ++ [59]
  else bif k == 9 then (if 2 < ps.length then [105, 102, 32] ++ ps.getD 0 [] ++ [32] ++ ps.getD 1 [] ++ ([32, 101, 108, 115, 101, 32] ++ ps.getD 2 []) else [105, 102, 32] ++ ps.getD 0 [] ++ [32] ++ ps.getD 1 [])
  else bif k == 10 then [102, 111, 114, 32] ++ ps.getD 0 [] ++ [32] ++ ps.getD 1 []
  else bif k == 11 then [114, 101, 116, 117, 114, 110, 32] ++ ps.getD 0 [] ++ [59] else bif k == 12 then [97, 115, 115, 101, 114, 116, 32] ++ ps.getD 0 [] ++ [59]
  else bif k == 13 then ps.getD 0 [] ++ [59] else [115, 107, 105, 112, 59]
def litW (x : Nd) (p : List UInt8) : List UInt8 := match x with
  | .mk k _ s m _ => bif k == 21 && decide (m < 0) then [45] ++ s else bif k == 20 then Lib.itoa m else p
def linesW (ps : List (List UInt8)) : List UInt8 := (ps.map fun p => p ++ [10]).flatten
def declW (k t : Int) (s : List UInt8) (l : List Nd) (ps : List (List UInt8)) : List UInt8 :=
  bif k == 1 then linesW ps else bif k == 5 then s ++ [32] ++ typeN t else match l with
    | [] => []
    | x :: _ => bif k == 2 then [118, 97, 114, 32] ++ s ++ [32] ++ typeN t ++ [32, 61, 32] ++ litW x (ps.getD 0 []) ++ [59]
      else bif k == 4 then [116, 101, 115, 116, 32] ++ s ++ [32] ++ ps.getD 0 []
      else [102, 117, 110, 99, 32] ++ s ++ [40] ++ Lib.join ps.dropLast [44, 32] ++ [41, 32] ++ typeN t ++ [32] ++ ps.getD (ps.length - 1) []
def printW (k t : Int) (s : List UInt8) (m : Int) (l : List Nd) (ps : List (List UInt8)) : List UInt8 :=
  if k ≥ 20 then exprW k t s m ps else if k ≤ 5 then declW k t s l ps else stmtW k s ps
mutual
/-- A tree as a text. -/
def printF : Nd → List UInt8
  | .mk k t s m l => printW k t s m l (printFs l)
def printFs : List Nd → List (List UInt8)
  | [] => []
  | x :: l => printF x :: printFs l
end
theorem printF_mk (k t : Int) (s : List UInt8) (m : Int) (l : List Nd) : printF (.mk k t s m l) = printW k t s m l (printFs l) := by rw [printF]
theorem printFs_nil : printFs [] = [] := by rw [printFs]
theorem printFs_cons (x : Nd) (l : List Nd) : printFs (x :: l) = printF x :: printFs l := by rw [printFs]
theorem printFs_map : ∀ l : List Nd, printFs l = l.map printF
  | [] => by rw [printFs_nil]; rfl
  | x :: l => by rw [printFs_cons, printFs_map l]; rfl
theorem printFs_len (l : List Nd) : (printFs l).length = l.length := by rw [printFs_map, List.length_map]
theorem printFs_get {l : List Nd} {i : Nat} {x : Nd} (h : l[i]? = some x) : (printFs l)[i]? = some (printF x) := by rw [printFs_map, List.getElem?_map, h]; rfl
theorem join_mem {ps : List (List UInt8)} {sep x : List UInt8} (h : x ∈ ps) : x.length ≤ (Lib.join ps sep).length := by
  cases ps with
  | nil => cases h
  | cons y r =>
    rw [Lib.join_length]
    have : x.length ≤ Lib.lens (y :: r) := by
      clear sep
      generalize y :: r = l at *
      induction l with
      | nil => cases h
      | cons z l ih =>
        simp only [Lib.lens, List.map_cons, List.sum_cons] at ih ⊢
        rcases List.mem_cons.1 h with e | e
        · subst e; omega
        · have := ih e; omega
    omega
/-- A tree whose text is not too long, whose numbers are whole ones of 64 bits. -/
def okX : Nd → Prop
  | .mk _ _ s m _ => -9223372036854775808 ≤ m ∧ m ≤ 9223372036854775807 ∧ s.length ≤ 1000000000000
def okN (n : Nd) : Prop := n.cnt ≤ 1000000000 ∧ (printF n).length ≤ 1000000000000 ∧ ∀ x ∈ listF n, okX x
theorem listFs_mem {l : List Nd} {x y : Nd} (h : x ∈ l) (hy : y ∈ listF x) : y ∈ listFs l := by
  induction l with
  | nil => cases h
  | cons z l ih =>
    rw [listFs_cons]
    rcases List.mem_cons.1 h with e | e
    · subst e; exact List.mem_append_left _ hy
    · exact List.mem_append_right _ (ih e)
theorem okN_kid {k t : Int} {s : List UInt8} {m : Int} {l : List Nd} {x : Nd} (h : okN (.mk k t s m l)) (hx : x ∈ l) (hp : (printF x).length ≤ 1000000000000) : okN x := by
  obtain ⟨a, b, c⟩ := h
  refine ⟨by have := cnt_kid (k := k) (t := t) (s := s) (n := m) hx; omega, hp, fun y hy => c y ?_⟩
  rw [listF_mk]
  exact List.mem_cons_of_mem _ (listFs_mem hx hy)
open Classical in
def q12f (f : Nat) : List D → Option D
  | [.agg ds] => match decN ds with
    | some n => if n.cnt < f ∧ okN n then some (.str (printF n)) else none
    | none => none
  | _ => none
theorem q12f_eq {f : Nat} {n : Nd} (h : n.cnt < f) (h2 : okN n) : q12f f [.agg n.enc] = some (.str (printF n)) := by
  simp only [q12f, decN_enc]; rw [if_pos ⟨h, h2⟩]
def q47rp := q100n
def tr44 : Tab := Tab.zero.addQ 44 q97n
theorem tr44_q (g : FuncId) (args : List D) : tr44.q g args = if g = 44 then q97n args else Tab.zero.q g args := rfl
theorem tr44_a : tr44.a = Tab.zero.a := rfl
theorem tr44_c : tr44.c = Tab.zero.c := rfl
theorem tr44_ok : tr44.ok Tryz.prog := Tab.addQ_ok (Tab.zero_ok _) q97n_ok
theorem tr44_e : type_of% (And.intro @tr44_q (And.intro @tr44_a @tr44_c)) := (And.intro @tr44_q (And.intro @tr44_a @tr44_c))

def tr47 : Tab := tr44.addQ 47 q100n
theorem tr47_q (g : FuncId) (args : List D) : tr47.q g args = if g = 47 then q100n args else tr44.q g args := rfl
theorem tr47_a : tr47.a = tr44.a := rfl
theorem tr47_c : tr47.c = tr44.c := rfl
theorem tr47_ok : tr47.ok Tryz.prog := Tab.addQ_ok tr44_ok q100n_ok
theorem tr47_e : type_of% (And.intro (And.intro @tr47_q (And.intro @tr47_a @tr47_c)) @tr44_e) := (And.intro (And.intro @tr47_q (And.intro @tr47_a @tr47_c)) @tr44_e)

def tr45 : Tab := tr47.addQ 45 q45p
theorem tr45_q (g : FuncId) (args : List D) : tr45.q g args = if g = 45 then q45p args else tr47.q g args := rfl
theorem tr45_a : tr45.a = tr47.a := rfl
theorem tr45_c : tr45.c = tr47.c := rfl
theorem tr45_ok : tr45.ok Tryz.prog := Tab.addQ_ok tr47_ok q45p_ok
theorem tr45_e : type_of% (And.intro (And.intro @tr45_q (And.intro @tr45_a @tr45_c)) @tr47_e) := (And.intro (And.intro @tr45_q (And.intro @tr45_a @tr45_c)) @tr47_e)

def trP (f : Nat) : Tab := tr45.addQ 12 (q12f f)
theorem trP_q (f : Nat) (g : FuncId) (args : List D) : (trP f).q g args = if g = 12 then q12f f args else tr45.q g args := rfl
theorem trP_a (f : Nat) : (trP f).a = tr45.a := rfl
theorem trP_c (f : Nat) : (trP f).c = tr45.c := rfl
set_option maxHeartbeats 1000000 in
theorem kidsP_c (f : Nat) (hT : (trP f).ok Tryz.prog) (l : List Nd) (sep : List UInt8) (hl : ∀ x ∈ l, x.cnt < f ∧ okN x) (hn : l.length ≤ 1000000000) (hJ : (Lib.join (printFs l) sep).length ≤ 1000000000000) : PCall Tryz.prog 26 [.sl (Nd.encs l), .str sep] (.str (Lib.join (printFs l) sep)) := by
  refine PCall.run hT st26rp (by simp) fun E => ?_
  have hTq := trP_q f
  have hTa := trP_a f
  have hTc := trP_c f
  generalize trP f = TT at hTq hTa hTc ⊢
  have hpl := printFs_len l
  have hj : q100n [.sl (encS (printFs l)), .str sep] = some (.str (Lib.join (printFs l) sep)) := q100n_eq ⟨by omega, by omega⟩
  simp (config := {maxSteps := 1000000}) only [s26rp, len_encs, hTq, hTa, hTc, tr45_e, zzK, seval]
  intro _
  refine run_loop (X := Nat × Nat) (fun z => [(1, .str sep), (5, ownD z.2 z.1), (8, .sl (Nd.encs l)), (9, .int .i64 l.length), (10, .int .i64 z.1)]) (fun z => ownH .emp z.2 1 (encS ((printFs l).take z.1))) (fun z => l.length - z.1) (fun z => z.1 ≤ l.length) (0, 0) (Nat.zero_le _) (by simp only [ownD_zero, zzK, seval]) (AHeap.sub_refl _) ?_
  rintro ⟨i, q⟩ Q hi hQ
  simp only at hi hQ ⊢
  have htl : ((printFs l).take i).length = i := by rw [List.length_take]; omega
  by_cases ci : i < l.length
  · have g : ((i : Int) < (l.length : Int)) = True := eq_true (by omega)
    obtain ⟨x, hx⟩ : ∃ x, l[i]? = some x := ⟨_, List.getElem?_eq_getElem ci⟩
    have hac : ∀ (K : D → AHeap → Prop) (h : AHeap), askE 5 K h (Nd.encs l) (i : Int) = K (.eptr x.enc 0) h := fun K h => askE_encs hx
    have hpx := part_enc x
    have wi : IntKind.i64.wrap ((i : Int) + 1) = ((i + 1 : Nat) : Int) := wrap_succ (by omega)
    obtain ⟨h1, h2⟩ := hl x (List.mem_of_getElem? hx)
    have hq := q12f_eq h1 h2
    have hts : (printFs l).take (i + 1) = (printFs l).take i ++ [printF x] := by rw [List.take_add_one, printFs_get hx]; rfl
    have hx5 := len_enc x
    have hxo := enc_ok x
    generalize printF x = px at hq hts
    obtain ⟨xk, xt, xs, xm, xl⟩ := x
    rw [enc_mk] at *
    by_cases h0 : i = 0
    · have o1 : ownD q i = .nilsl := by rw [h0]; rfl
      have o2 : (printFs l).take i = [] := by rw [h0]; rfl
      have o3 : ∀ r, ownD r (i + 1) = .row r 3 0 1 := fun r => by rw [h0]; rfl
      rw [o2, List.nil_append] at hts
      simp (config := {maxSteps := 1000000}) only [g, hac, hpx, wi, hq, hTq, hTa, hTc, o1, o2, show encS [] = [] from rfl, ownH_nil, tr45_e, zzK, seval]
      intro i7 i8 n1 n2
      refine hQ (i + 1, i8) _ _ (by simp only; omega) (by simp only [o3, zzK, seval]) ?_ (by simp only; omega)
      simp only [hts]
      rw [ownH_pos (by simp [encS])]
      exact AHeap.sub_X (AHeap.subX_l (by simp [encS]) AHeap.subX_emp)
    · have e1 : encS ((printFs l).take i) ≠ [] := fun e => h0 (by have := congrArg List.length e; rw [len_encS, htl] at this; simpa using this)
      simp (config := {maxSteps := 1000000}) only [g, hac, hpx, wi, hq, hTq, hTa, hTc, ownD_pos h0, ownH_pos e1, len_encS, htl, tr45_e, zzK, seval]
      intro i7 n1 n2
      simp (config := {maxSteps := 1000000}) only [g, hac, hpx, wi, hq, hTq, hTa, hTc, n1, n2, len_encS, htl, tr45_e, zzK, seval]
      refine ⟨by omega, hQ (i + 1, q) _ _ (by simp only; omega) (by simp only [ownD_pos (Nat.succ_ne_zero i), show i + 1 + 2 = i + 2 + 1 by omega, zzK, seval]) ?_ (by simp only; omega)⟩
      simp only [hts]
      have hl1 : (encS ((printFs l).take i ++ [px])).length = i + 1 := by rw [len_encS, List.length_append, htl]; rfl
      rw [ownH_pos (by intro e; rw [e] at hl1; simp at hl1), hl1, ← encS_app, show i + 1 + 2 = i + 2 + 1 by omega]
      exact AHeap.sub_X (AHeap.subX_l (by simp [n1, n2]) AHeap.subX_emp)
  · have e0 : i = l.length := by omega
    subst e0
    have g : ((l.length : Int) < (l.length : Int)) = False := eq_false (by omega)
    have tk : (printFs l).take l.length = printFs l := List.take_of_length_le (by omega)
    rw [tk] at htl ⊢
    by_cases h0 : l.length = 0
    · have hl0 : l = [] := List.length_eq_zero_iff.1 h0
      subst hl0
      rw [printFs_nil] at *
      have hj' : q100n [.sl [], .str sep] = some (.str (Lib.join [] sep)) := hj
      simp (config := {maxSteps := 1000000}) only [g, hj', hTq, hTa, hTc, List.length_nil, ownD_zero, show encS [] = [] from rfl, ownH_nil, tr45_e, zzK, seval]
    · have e1 : encS (printFs l) ≠ [] := fun e => h0 (by have := congrArg List.length e; rw [len_encS, htl] at this; simpa using this)
      have tk2 : (encS (printFs l)).take l.length = encS (printFs l) := List.take_of_length_le (by rw [len_encS]; omega)
      simp (config := {maxSteps := 1000000}) only [g, hj, hTq, hTa, hTc, ownD_pos h0, ownH_pos e1, len_encS, hpl, tk2, tr45_e, zzK, seval]
end
end Go.Proofs.YtpagdhbmbnoddaaGreatDoor.Zz
