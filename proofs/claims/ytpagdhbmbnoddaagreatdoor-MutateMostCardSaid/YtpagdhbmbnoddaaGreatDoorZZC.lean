/- A program of sums: its words, its tree, its mutants. -/
import Derived.Test.YtpagdhbmbnoddaaGreatDoorZP19
import Derived.Test.YtpagdhbmbnoddaaGreatDoorZM2
import Derived.Test.YtpagdhbmbnoddaaGreatDoorZA0
import Derived.Test.YtpagdhbmbnoddaaGreatDoorZX
import Derived.Below
import Derived.ChangeSlices
import Derived.ChangeSame
import Derived.Deep.Strs
import Derived.LaidLaws
import Derived.Deep.DeepLaidRun
import Derived.Handed
import Derived.HandedShaped
import Derived.OpenShut
import Derived.MakeChecks
import Derived.Shelf.Vars
set_option linter.unnecessarySimpa false
namespace Go.Proofs.YtpagdhbmbnoddaaGreatDoor.Zz
set_option linter.unusedVariables false
set_option linter.unusedSimpArgs false
set_option maxRecDepth 20000
/-! ### Parts that are parsed -/
section
theorem sNode_lt {n : Nd} {ws : List Wd} {m : Int} (h : m + 1 ≤ 2000) : sNode n ws m = some (n, ws, m + 1) := if_neg (by omega)
theorem sDeep_lt {α : Type} {body : Int → List Wd → Int → SR α} {d : Int} {ws : List Wd} {m : Int} (h : d + 1 ≤ 40) : sDeep body d ws m = body (d + 1) ws m := if_neg (by omega)
theorem sTake_no {x : List UInt8} {ws : List Wd} {m : Int} (h : sIs x ws = false) : sTake x ws m = some (false, ws, m) := by rw [sTake, h]; rfl
theorem sTake_yes {x : List UInt8} {ws : List Wd} {m : Int} (h : sIs x ws = true) : sTake x ws m = some (true, ws.tail, m) := by rw [sTake, h]; rfl
theorem sMust_yes {x : List UInt8} {ws : List Wd} {m : Int} (h : sIs x ws = true) : sMust x ws m = some ((), ws.tail, m) := by rw [sMust, h]; rfl
theorem sIs_name {x w : List UInt8} {r : List Wd} : sIs x ((1, w) :: r) = false := by simp [sIs]
theorem sIs_lit {x w : List UInt8} {r : List Wd} : sIs x ((2, w) :: r) = false := by simp [sIs]
theorem sName_yes {w : List UInt8} {r : List Wd} {m : Int} : sName ((1, w) :: r) m = some (w, r, m) := rfl
theorem sF_expr (f : Nat) (k d : Int) (ws : List Wd) (m : Int) : (sF (f + 1)).expr k d ws m = sExpr (sF f) k d ws m := rfl
theorem sF_unary (f : Nat) (d : Int) (ws : List Wd) (m : Int) : (sF (f + 1)).unary d ws m = sUnary (sF f) d ws m := rfl
theorem sF_call (f : Nat) (x : List UInt8) (d : Int) (ws : List Wd) (m : Int) : (sF (f + 1)).call x d ws m = sCall (sF f) x d ws m := rfl
theorem sF_block (f : Nat) (d : Int) (ws : List Wd) (m : Int) : (sF (f + 1)).block d ws m = sBlock (sF f) d ws m := rfl
theorem sF_stmt (f : Nat) (d : Int) (ws : List Wd) (m : Int) : (sF (f + 1)).stmt d ws m = sStmt (sF f) d ws m := rfl
theorem sF_branch (f : Nat) (d : Int) (ws : List Wd) (m : Int) : (sF (f + 1)).branch d ws m = sBranch (sF f) d ws m := rfl
/-- A name that is a variable. -/
theorem sUnary_var (g : SRec) {w : List UInt8} {r : List Wd} {d m : Int} (h : sIs [40] r = false) (hm : m + 1 ≤ 2000) : sUnary g d ((1, w) :: r) m = some (.mk 23 0 w 0 [], r, m + 1) := by
  have hp : sPlain ((1, w) :: r) m = some ((.mk 0 0 [] 0 [], false), (1, w) :: r, m) := by
    unfold sPlain; rw [sIs_name, sIs_name]; rfl
  unfold sUnary
  rw [sTake_no sIs_name, Option.bind_some]
  simp only [cond_false]
  rw [sTake_no sIs_name, Option.bind_some]
  simp only [cond_false]
  rw [hp, Option.bind_some]
  simp only [cond_false]
  rw [sTake_no sIs_name, Option.bind_some]
  simp only [cond_false]
  rw [sTake_no sIs_name, Option.bind_some]
  simp only [cond_false]
  rw [sTake_no sIs_name, Option.bind_some]
  simp only [cond_false]
  rw [sName_yes, Option.bind_some]
  simp only [h, cond_false]
  exact sNode_lt hm
theorem sExprL_stop {g : SRec} {k d : Int} {j : Nat} {n : Nd} {sg : List UInt8} {r : List Wd} {m : Int} (h : rankF sg ≤ k) : sExprL g k d (j + 1) n ((5, sg) :: r) m = some (n, (5, sg) :: r, m) := by
  unfold sExprL
  have : (sKind ((5, sg) :: r) != 5 || decide (rankF (sWord ((5, sg) :: r)) ≤ k)) = true := by simp [sKind, sWord, h]
  rw [this]; rfl
theorem sExprL_go {g : SRec} {k d : Int} {j : Nat} {n : Nd} {sg : List UInt8} {r : List Wd} {m : Int} (h : k < rankF sg) : sExprL g k d (j + 1) n ((5, sg) :: r) m = (g.expr (rankF sg) d r m).bind fun y => (sNode (.mk 26 0 sg 0 [n, y.1]) y.2.1 y.2.2).bind fun z => sExprL g k d j z.1 z.2.1 z.2.2 := by
  show (bif _ then _ else _) = _
  have : (sKind ((5, sg) :: r) != 5 || decide (rankF (sWord ((5, sg) :: r)) ≤ k)) = false := by
    rw [Bool.or_eq_false_iff]; exact ⟨rfl, decide_eq_false (Int.not_le.2 h)⟩
  rw [this]; rfl
/-- A variable alone, ahead of a sign that binds no more strongly. -/
theorem sExpr_var {f : Nat} {k d : Int} {w sg : List UInt8} {r : List Wd} {m : Int} (h : rankF sg ≤ k) (hs : (sg == [40]) = false) (hd : d + 1 ≤ 40) (hm : m + 1 ≤ 2000) : (sF (f + 2)).expr k d ((1, w) :: (5, sg) :: r) m = some (.mk 23 0 w 0 [], (5, sg) :: r, m + 1) := by
  rw [sF_expr]
  unfold sExpr
  rw [sDeep_lt hd, sF_unary, sUnary_var _ (by simp [sIs, hs]) hm, Option.bind_some]
  exact sExprL_stop h
end
/-! ### The text -/
def wPlus : Nat → List Wd → List Wd
  | 0, ws => ws
  | n + 1, ws => (5, [43]) :: (1, [97]) :: wPlus n ws
def tPlus : Nat → List UInt8 → List UInt8
  | 0, r => r
  | n + 1, r => 43 :: 97 :: tPlus n r
theorem tPlus_app : ∀ (n : Nat) (a b : List UInt8), tPlus n a ++ b = tPlus n (a ++ b)
  | 0, a, b => rfl
  | n + 1, a, b => by simp only [tPlus, List.cons_append, tPlus_app n a b]
theorem tPlus_end : ∀ (n : Nat) (r : List UInt8), tPlus n (43 :: 97 :: r) = tPlus (n + 1) r
  | 0, r => rfl
  | n + 1, r => by rw [tPlus, tPlus_end n r]; rfl
theorem tPlus_len : ∀ (n : Nat) (r : List UInt8), (tPlus n r).length = 2 * n + r.length
  | 0, r => by simp [tPlus]
  | n + 1, r => by simp only [tPlus, List.length_cons, tPlus_len n r]; omega
def fnText (X : UInt8) (n : Nat) (r : List UInt8) : List UInt8 := 102 :: 117 :: 110 :: 99 :: 32 :: 102 :: X :: 40 :: 97 :: 32 :: 105 :: 110 :: 116 :: 41 :: 32 :: 105 :: 110 :: 116 :: 32 :: 123 :: 32 :: 114 :: 101 :: 116 :: 117 :: 114 :: 110 :: 32 :: 97 :: tPlus n (59 :: 32 :: 125 :: r)
def fnWords (X : UInt8) (n : Nat) (ws : List Wd) : List Wd := (4, wFunc) :: (1, [102, X]) :: (5, [40]) :: (1, [97]) :: (4, wInt) :: (5, [41]) :: (4, wInt) :: (5, [123]) :: (4, wReturn) :: (1, [97]) :: wPlus n ((5, [59]) :: (5, [125]) :: ws)
theorem spn_plus (n : Nat) (r : List UInt8) : spn nameP (tPlus n (59 :: r)) = 0 := by
  cases n with
  | zero => exact spn_zero (by decide)
  | succ n => exact spn_zero (by decide)
theorem tok_plus : ∀ (n : Nat) (r : List UInt8) (ws : List Wd), TokB (59 :: r) ws → TokB (tPlus n (59 :: r)) (wPlus n ws)
  | 0, r, ws, h => h
  | n + 1, r, ws, h => by
    refine TokB.word 5 [43] _ rfl (by kernel_rfl) (by kernel_rfl) (by simp) ?_
    exact TokB.name 1 97 [] _ rfl (by decide) (by simp) (spn_plus n r) (.inr ⟨by decide, rfl, by decide⟩) (tok_plus n r ws h)
theorem tok_fn (X : UInt8) (n : Nat) (r : List UInt8) (ws : List Wd) (hX : nameP (X.toNat : Int) = true) (h : TokB r ws) : TokB (fnText X n r) (fnWords X n ws) := by
  unfold fnText fnWords
  refine TokB.name 4 102 [117, 110, 99] _ rfl (by decide) (by decide) (spn_zero (by decide)) (.inl ⟨by decide, rfl⟩) (TokB.sp (by decide) ?_)
  refine TokB.name 1 102 [X] _ rfl (by decide) (by simpa using hX) (spn_zero (by decide)) (.inr ⟨by simp [words], rfl, by simp⟩) ?_
  refine TokB.word 5 [40] _ rfl (by kernel_rfl) (by kernel_rfl) (by simp) ?_
  refine TokB.name 1 97 [] _ rfl (by decide) (by simp) (spn_zero (by decide)) (.inr ⟨by decide, rfl, by decide⟩) (TokB.sp (by decide) ?_)
  refine TokB.name 4 105 [110, 116] _ rfl (by decide) (by decide) (spn_zero (by decide)) (.inl ⟨by decide, rfl⟩) ?_
  refine TokB.word 5 [41] _ rfl (by kernel_rfl) (by kernel_rfl) (by simp) (TokB.sp (by decide) ?_)
  refine TokB.name 4 105 [110, 116] _ rfl (by decide) (by decide) (spn_zero (by decide)) (.inl ⟨by decide, rfl⟩) (TokB.sp (by decide) ?_)
  refine TokB.word 5 [123] _ rfl (by kernel_rfl) (by kernel_rfl) (by simp) (TokB.sp (by decide) ?_)
  refine TokB.name 4 114 [101, 116, 117, 114, 110] _ rfl (by decide) (by decide) (spn_zero (by decide)) (.inl ⟨by decide, rfl⟩) (TokB.sp (by decide) ?_)
  refine TokB.name 1 97 [] _ rfl (by decide) (by simp) (spn_plus n _) (.inr ⟨by decide, rfl, by decide⟩) (tok_plus n _ _ ?_)
  refine TokB.word 5 [59] _ rfl (by kernel_rfl) (by kernel_rfl) (by simp) (TokB.sp (by decide) ?_)
  exact TokB.word 5 [125] _ rfl (by kernel_rfl) (by kernel_rfl) (by simp) h
/-! ### The tree -/
def vA : Nd := .mk 23 0 [97] 0 []
def plusN (n : Nd) : Nat → Nd
  | 0 => n
  | c + 1 => .mk 26 0 [43] 0 [plusN n c, vA]
theorem plusN_in (n : Nd) : ∀ c, plusN (.mk 26 0 [43] 0 [n, vA]) c = plusN n (c + 1)
  | 0 => rfl
  | c + 1 => by rw [plusN, plusN_in n c]; rfl
theorem rank_plus : rankF [43] = 4 := by decide
theorem rank_semi : rankF [59] = 0 := by decide
theorem wPlus_head (c : Nat) (r : List Wd) : ∃ sg r', wPlus c ((5, [59]) :: r) = (5, sg) :: r' ∧ rankF sg ≤ 4 ∧ (sg == [40]) = false := by
  cases c with
  | zero => exact ⟨_, _, rfl, by rw [rank_semi]; omega, by decide⟩
  | succ c => exact ⟨_, _, rfl, by rw [rank_plus]; omega, by decide⟩
theorem plus_loop (f : Nat) (d : Int) (hd : d + 1 ≤ 40) (r : List Wd) : ∀ (c j : Nat) (n : Nd) (m : Int), c < j → m + 2 * c ≤ 2000 → sExprL (sF (f + 2)) 0 d j n (wPlus c ((5, [59]) :: r)) m = some (plusN n c, (5, [59]) :: r, m + 2 * c)
  | 0, 0, n, m, h, _ => by omega
  | c + 1, 0, n, m, h, _ => by omega
  | 0, j + 1, n, m, h, hm => by
    show sExprL (sF (f + 2)) 0 d (j + 1) n ((5, [59]) :: r) m = _
    rw [sExprL_stop (by rw [rank_semi]; omega)]
    simp [plusN]
  | c + 1, j + 1, n, m, h, hm => by
    show sExprL (sF (f + 2)) 0 d (j + 1) n ((5, [43]) :: (1, [97]) :: wPlus c ((5, [59]) :: r)) m = _
    rw [sExprL_go (by rw [rank_plus]; omega), rank_plus]
    have ih := plus_loop f d hd r c j (.mk 26 0 [43] 0 [n, vA]) (m + 1 + 1) (by omega) (by omega)
    obtain ⟨sg, r', e, e1, e2⟩ := wPlus_head c r
    rw [e] at ih ⊢
    rw [sExpr_var e1 e2 hd (by omega), Option.bind_some]
    simp only
    rw [sNode_lt (by omega), Option.bind_some]
    simp only
    rw [show (Nd.mk 23 0 [97] 0 []) = vA from rfl, ih, plusN_in]
    congr 3
    omega
theorem wPlus_len : ∀ (c : Nat) (r : List Wd), (wPlus c r).length = 2 * c + r.length
  | 0, r => by simp [wPlus]
  | c + 1, r => by simp only [wPlus, List.length_cons, wPlus_len c r]; omega
theorem sum_expr (f : Nat) (d : Int) (hd : d + 2 ≤ 40) (c : Nat) (r : List Wd) (m : Int) (hm : m + 1 + 2 * c ≤ 2000) : (sF (f + 3)).expr 0 d ((1, [97]) :: wPlus c ((5, [59]) :: r)) m = some (plusN vA c, (5, [59]) :: r, m + 1 + 2 * c) := by
  rw [sF_expr]
  unfold sExpr
  rw [sDeep_lt (by omega), sF_unary]
  have hh : sIs [40] (wPlus c ((5, [59]) :: r)) = false := by
    obtain ⟨sg, r', e, _, e2⟩ := wPlus_head c r
    rw [e]; simp [sIs, e2]
  rw [sUnary_var _ hh (by omega), Option.bind_some]
  exact plus_loop f (d + 1) (by omega) r c _ vA (m + 1) (by simp only [wPlus_len, List.length_cons]; omega) hm
def fnTree (X : UInt8) (n : Nat) : Nd := .mk 3 1 [102, X] 0 [.mk 5 1 [97] 0 [], .mk 6 0 [] 0 [.mk 11 0 [] 0 [plusN vA n]]]
theorem sIs_kw {x w : List UInt8} {r : List Wd} : sIs x ((4, w) :: r) = (w == x) := by simp [sIs]
theorem sIs_sg {x w : List UInt8} {r : List Wd} : sIs x ((5, w) :: r) = (w == x) := by simp [sIs]
theorem ret_stmt (f : Nat) (d : Int) (hd : d + 2 ≤ 40) (c : Nat) (r : List Wd) (m : Int) (hm : m + 2 + 2 * c ≤ 2000) : (sF (f + 4)).stmt d ((4, wReturn) :: (1, [97]) :: wPlus c ((5, [59]) :: r)) m = some (.mk 11 0 [] 0 [plusN vA c], r, m + 2 + 2 * c) := by
  rw [sF_stmt]
  unfold sStmt
  rw [sTake_no (by rw [sIs_kw]; decide), Option.bind_some]
  simp only [cond_false]
  rw [sTake_no (by rw [sIs_kw]; decide), Option.bind_some]
  simp only [cond_false]
  rw [sTake_yes (by rw [sIs_kw]; decide), Option.bind_some]
  simp only [cond_true, List.tail_cons]
  unfold sSimple
  rw [sNode_lt (by omega), Option.bind_some]
  simp only
  rw [sum_expr f d hd c r (m + 1) (by omega), Option.bind_some]
  simp only
  rw [sMust_yes (by rw [sIs_sg]; decide), Option.bind_some]
  simp only [List.tail_cons, Nd.setKids]
  congr 3
  omega
theorem fn_block (f : Nat) (d : Int) (hd : d + 3 ≤ 40) (c : Nat) (r : List Wd) (m : Int) (hm : m + 3 + 2 * c ≤ 2000) : (sF (f + 5)).block d ((5, [123]) :: (4, wReturn) :: (1, [97]) :: wPlus c ((5, [59]) :: (5, [125]) :: r)) m = some (.mk 6 0 [] 0 [.mk 11 0 [] 0 [plusN vA c]], r, m + 3 + 2 * c) := by
  rw [sF_block]
  unfold sBlock
  rw [sDeep_lt (by omega), sMust_yes (by rw [sIs_sg]; decide), Option.bind_some]
  simp only [List.tail_cons]
  rw [sNode_lt (by omega), Option.bind_some]
  simp only [List.length_cons]
  show (sTake _ _ _).bind _ = _
  rw [sTake_no (by rw [sIs_kw]; decide), Option.bind_some]
  simp only [cond_false]
  rw [show decide ((Nd.mk 6 0 [] 0 []).kidsOf.length ≥ 32) = false from rfl]
  simp only [cond_false]
  rw [ret_stmt f (d + 1) (by omega) c _ (m + 1) (by omega), Option.bind_some]
  simp only [Nd.addKid, List.nil_append]
  show (sTake _ _ _).bind _ = _
  rw [sTake_yes (by rw [sIs_sg]; decide), Option.bind_some]
  simp only [cond_true, List.tail_cons]
  congr 3
  omega
theorem fn_decl (f : Nat) (X : UInt8) (c : Nat) (r : List Wd) (m : Int) (hm : m + 5 + 2 * c ≤ 2000) : sDecl (sF (f + 5)) 0 (fnWords X c r) m = some (fnTree X c, r, m + 5 + 2 * c) := by
  unfold sDecl fnWords
  rw [sTake_no (by rw [sIs_kw]; decide), Option.bind_some]
  simp only [cond_false]
  rw [sTake_no (by rw [sIs_kw]; decide), Option.bind_some]
  simp only [cond_false]
  rw [sMust_yes (by rw [sIs_kw]; decide), Option.bind_some]
  simp only [List.tail_cons]
  rw [sName_yes, Option.bind_some]
  simp only
  rw [sNode_lt (by omega), Option.bind_some]
  simp only
  rw [sMust_yes (by rw [sIs_sg]; decide), Option.bind_some]
  simp only [List.tail_cons, List.length_cons]
  have hp : ∀ (j : Nat) (r : List Wd), sParamL (j + 2) (.mk 3 0 [102, X] 0 []) ((1, [97]) :: (4, wInt) :: (5, [41]) :: r) (m + 1) = some (.mk 3 0 [102, X] 0 [.mk 5 1 [97] 0 []], r, m + 2) := fun j r => by
    show (sTake _ _ _).bind _ = _
    rw [sTake_no sIs_name, Option.bind_some]
    simp only [cond_false]
    rw [show decide ((Nd.mk 3 0 [102, X] 0 []).kidsOf.length > 0) = false from rfl, show decide ((Nd.mk 3 0 [102, X] 0 []).kidsOf.length ≥ 6) = false from rfl]
    simp only [cond_false, Option.bind_some]
    rw [sName_yes, Option.bind_some]
    simp only
    have ht : ∀ m, sTyp ((4, wInt) :: (5, [41]) :: r) m = some (1, (5, [41]) :: r, m) := fun m => by
      unfold sTyp; rw [sIs_kw, show (wInt == wInt) = true from by decide]; rfl
    rw [ht, Option.bind_some]
    simp only
    rw [sNode_lt (by omega), Option.bind_some]
    simp only [Nd.addKid, List.nil_append]
    show (sTake _ _ _).bind _ = _
    rw [sTake_yes (by rw [sIs_sg]; decide), Option.bind_some]
    simp only [cond_true, List.tail_cons]
    congr 3
    omega
  rw [hp, Option.bind_some]
  simp only
  have ht : ∀ (r : List Wd) m, sTyp ((4, wInt) :: r) m = some (1, r, m) := fun r m => by
    unfold sTyp; rw [sIs_kw, show (wInt == wInt) = true from by decide]; rfl
  rw [ht, Option.bind_some]
  simp only
  rw [fn_block f 0 (by omega) c r (m + 2) (by omega), Option.bind_some]
  simp only [Nd.setT, Nd.addKid, List.cons_append, List.nil_append]
  congr 3
  omega
end Go.Proofs.YtpagdhbmbnoddaaGreatDoor.Zz
/- Programs of sums: parsed; their mutants. -/
namespace Go.Proofs.YtpagdhbmbnoddaaGreatDoor.Zz
set_option linter.unusedVariables false
set_option linter.unusedSimpArgs false
set_option maxRecDepth 20000
def ltr (i : Nat) : UInt8 := UInt8.ofNat (97 + i)
theorem ltr_name {i : Nat} (h : i < 16) : nameP ((ltr i).toNat : Int) = true := by
  have : ∀ i : Fin 16, nameP ((ltr i.1).toNat : Int) = true := by decide
  exact this ⟨i, h⟩
theorem ltr_nat {i : Nat} (h : i < 16) : (ltr i).toNat = 97 + i := by
  have : ∀ i : Fin 16, (ltr i.1).toNat = 97 + i.1 := by decide
  exact this ⟨i, h⟩
variable (n : Nat)
def progT : Nat → Nat → List UInt8
  | 0, _ => []
  | c + 1, i => fnText (ltr i) n (progT c (i + 1))
def progW : Nat → Nat → List Wd
  | 0, _ => [(0, [])]
  | c + 1, i => fnWords (ltr i) n (progW c (i + 1))
def trees : Nat → Nat → List Nd
  | 0, _ => []
  | c + 1, i => fnTree (ltr i) n :: trees c (i + 1)
theorem prog_tok : ∀ c i, i + c ≤ 16 → TokB (progT n c i) (progW n c i)
  | 0, i, _ => TokB.nil
  | c + 1, i, h => tok_fn _ _ _ _ (ltr_name (by omega)) (prog_tok c (i + 1) (by omega))
theorem progT_len : ∀ c i, (progT n c i).length = c * (32 + 2 * n)
  | 0, i => by simp [progT]
  | c + 1, i => by
    rw [progT, fnText]
    simp only [List.length_cons, tPlus_len, progT_len c (i + 1)]
    rw [Nat.add_mul]; omega
theorem progW_head (c i : Nat) : progW n c i = [(0, [])] ∨ ∃ r, progW n c i = (4, wFunc) :: r := by
  cases c with
  | zero => exact .inl rfl
  | succ c => exact .inr ⟨_, rfl⟩
theorem prog_loop (f : Nat) (hn : n ≤ 31) : ∀ (c i j : Nat) (l : List Nd) (m : Int), i + c ≤ 16 → c < j → m + c * (5 + 2 * n) ≤ 2000 → sProgL (sF (f + 5)) 0 j i 0 (.mk 1 0 [] 0 l) (progW n c i) m = some (.mk 1 0 [] 0 (l ++ trees n c i), [(0, [])], m + c * (5 + 2 * n))
  | c, i, 0, l, m, _, h, _ => by omega
  | 0, i, j + 1, l, m, _, _, _ => by
    show (bif (sKind [(0, [])] != 0) then _ else some (Nd.mk 1 0 [] 0 l, [(0, [])], m)) = _
    rw [show (sKind [((0 : Int), ([] : List UInt8))] != 0) = false from rfl, cond_false]
    simp [trees]
  | c + 1, i, j + 1, l, m, hi, hj, hm => by
    have e1 : (((c + 1 : Nat) : Int)) * (5 + 2 * n) = c * (5 + 2 * n) + (5 + 2 * n) := by rw [show ((c + 1 : Nat) : Int) = (c : Int) + 1 by omega, Int.add_mul, Int.one_mul]
    rw [e1] at hm ⊢
    have h0 : (0 : Int) ≤ c * (5 + 2 * n) := Int.mul_nonneg (by omega) (by omega)
    show sProgL (sF (f + 5)) 0 (j + 1) i 0 _ (fnWords (ltr i) n (progW n c (i + 1))) m = _
    unfold sProgL
    have hk : (sKind (fnWords (ltr i) n (progW n c (i + 1))) != 0) = true := rfl
    have hv : sIs wVar (fnWords (ltr i) n (progW n c (i + 1))) = false := by unfold fnWords; rw [sIs_kw]; decide
    have hb : (decide ((0 : Int) > 16) || decide ((i : Int) + 1 > 32)) = false := by
      rw [Bool.or_eq_false_iff]; exact ⟨by decide, decide_eq_false (by omega)⟩
    rw [hk, hv]
    simp only [cond_true, cond_false]
    rw [hb, cond_false, fn_decl f _ _ _ _ (by omega), Option.bind_some]
    simp only [Nd.addKid]
    have ih := prog_loop f hn c (i + 1) j (l ++ [fnTree (ltr i) n]) (m + 5 + 2 * n) (by omega) (by omega) (by omega)
    rw [show ((i : Int) + 1) = ((i + 1 : Nat) : Int) by omega, ih]
    simp only [List.append_assoc, List.cons_append, List.nil_append, trees]
    congr 3
    omega
theorem progW_len : ∀ c i, c ≤ (progW n c i).length
  | 0, i => Nat.zero_le _
  | c + 1, i => by
    have := progW_len c (i + 1)
    rw [progW, fnWords]
    simp only [List.length_cons, wPlus_len]
    omega
def progN (F : Nat) : Nd := .mk 1 0 [] 0 (trees n F 0)
theorem prog_parse (F : Nat) (hn : n ≤ 31) (hF : F ≤ 16) : parseF 5 (progT n F 0) = some (progN n F, 0, 0) := by
  have hmul : F * (32 + 2 * n) ≤ 16 * 94 := Nat.mul_le_mul hF (by omega)
  have hmul2 : F * (5 + 2 * n) ≤ 16 * 67 := Nat.mul_le_mul hF (by omega)
  obtain ⟨h1, h2⟩ := tokens_of (prog_tok n F 0 (by omega)) (by rw [progT_len]; omega)
  refine parse_of (ws := [(0, [])]) (m := 1 + F * (5 + 2 * n)) h1 ?_
  rw [h2]
  unfold sProg
  rw [sNode_lt (by omega), Option.bind_some]
  have := progW_len n F 0
  have hm3 : (1 : Int) + F * (5 + 2 * n) ≤ 2000 := by
    have : ((F * (5 + 2 * n) : Nat) : Int) = (F : Int) * (5 + 2 * n) := by simp
    omega
  have := prog_loop n 0 hn F 0 ((progW n F 0).length + 1) [] (0 + 1) (by omega) (by omega) (by omega)
  exact this
theorem cnt_plus (v : Nd) : ∀ c, (plusN v c).cnt = v.cnt + 2 * c
  | 0 => rfl
  | c + 1 => by
    rw [plusN, cnt_mk, cnts_cons, cnts_cons, cnts_nil, cnt_plus v c, vA, cnt_mk, cnts_nil]
    omega
theorem cnt_fn (X : UInt8) (c : Nat) : (fnTree X c).cnt = 5 + 2 * c := by
  rw [fnTree]
  simp only [cnt_mk, cnts_cons, cnts_nil, cnt_plus, vA]
  omega
theorem cnt_trees : ∀ c i, Nd.cnts (trees n c i) = c * (5 + 2 * n)
  | 0, i => by rw [trees, cnts_nil, Nat.zero_mul]
  | c + 1, i => by rw [trees, cnts_cons, cnt_fn, cnt_trees c (i + 1), Nat.add_mul]; omega
theorem cnt_prog (F : Nat) (hn : n ≤ 31) (hF : F ≤ 16) : (progN n F).cnt ≤ 100000000 := by
  have hmul2 : F * (5 + 2 * n) ≤ 16 * 67 := Nat.mul_le_mul hF (by omega)
  rw [progN, cnt_mk, cnt_trees]
  omega
/-! ### The mutants -/
theorem mutsL_app (f : List UInt8) : ∀ (l r : List Nd) (a : Int), mutsL f a (l ++ r) = mutsL f a l ++ mutsL f (a + l.length) r
  | [], r, a => by simp [mutsL]
  | x :: l, r, a => by
    simp only [List.cons_append, mutsL, mutsL_app f l r, List.append_assoc, List.length_cons]
    rw [show a + 1 + (l.length : Int) = a + ((l.length + 1 : Nat) : Int) by omega]
theorem mutsL_none (f : List UInt8) (a : Int) (x : Nd) (l : List Nd) (h : turnsF x = []) : mutsL f a (x :: l) = mutsL f (a + 1) l := by
  rw [mutsL, h]; rfl
theorem muts_plus (f : List UInt8) : ∀ (c : Nat) (a : Int), mutsL f a (listF (plusN vA c)) = (List.range c).map fun k : Nat => (f, a + (k : Int), (0 : Int))
  | 0, a => by
    rw [plusN, vA, listF_mk, listFs_nil, mutsL_none _ _ _ _ rfl]
    rfl
  | c + 1, a => by
    rw [plusN, listF_mk, listFs_cons, listFs_cons, listFs_nil, List.append_nil, mutsL, mutsL_app, muts_plus f c]
    have e1 : turnsF (.mk 26 0 [43] 0 [plusN vA c, vA]) = [.mk 26 0 [45] 0 [plusN vA c, vA]] := rfl
    have e2 : ∀ b, mutsL f b (listF vA) = [] := fun b => by rw [vA, listF_mk, listFs_nil, mutsL_none _ _ _ _ rfl]; rfl
    rw [e1, e2, List.append_nil, List.range_succ_eq_map]
    simp only [mutsN, List.length_cons, List.length_nil, List.map_cons, List.map_map]
    show (f, a, (((0 : Nat) + 0 : Nat) : Int)) :: _ = (f, a + ((0 : Nat) : Int), 0) :: _
    rw [show a + ((0 : Nat) : Int) = a by omega]
    simp only [List.map_nil, List.nil_append, List.range_zero, Nat.zero_sub, Nat.sub_zero, Nat.add_zero, List.cons_append]
    congr 1
    refine List.map_congr_left fun k _ => ?_
    simp only [Function.comp]
    rw [show a + 1 + (k : Int) = a + ((k + 1 : Nat) : Int) by omega]
theorem muts_fn (X : UInt8) (c : Nat) : mutsL [102, X] 0 (listF (fnTree X c)) = (List.range c).map fun k : Nat => ([102, X], 4 + (k : Int), (0 : Int)) := by
  rw [fnTree]
  simp only [listF_mk, listFs_cons, listFs_nil, List.append_nil, List.cons_append, List.nil_append]
  rw [mutsL_none _ _ _ _ rfl, mutsL_none _ _ _ _ rfl, mutsL_none _ _ _ _ rfl, mutsL_none _ _ _ _ rfl]
  exact muts_plus [102, X] c (0 + 1 + 1 + 1 + 1)
def mutsT : Nat → Nat → List Mut
  | 0, _ => []
  | c + 1, i => ((List.range n).map fun k : Nat => ([102, ltr i], 4 + (k : Int), (0 : Int))) ++ mutsT c (i + 1)
theorem allM_trees : ∀ c i, allM (trees n c i) = mutsT n c i
  | 0, i => rfl
  | c + 1, i => by
    rw [trees, mutsT, ← muts_fn, ← allM_trees c (i + 1)]
    exact allM_fn _ _ _ _ _
theorem mutsT_len : ∀ c i, (mutsT n c i).length = c * n
  | 0, i => by simp [mutsT]
  | c + 1, i => by rw [mutsT, List.length_append, List.length_map, List.length_range, mutsT_len c (i + 1), Nat.add_mul]; omega
/-- One mutant ahead of another one. -/
def MLt (a b : Mut) : Prop := (Op.bytesLess a.1 b.1 || a.1 == b.1) = true ∧ (a.1 = b.1 → a.2.1 < b.2.1)
theorem less_two {i j : Nat} (h : i < j) (hj : j < 16) : (Op.bytesLess [102, ltr i] [102, ltr j] || ([102, ltr i] : List UInt8) == [102, ltr j]) = true ∧ [102, ltr i] ≠ [102, ltr j] := by
  have hi := ltr_nat (i := i) (by omega)
  have hj := ltr_nat hj
  have h1 : ltr i < ltr j := by show (ltr i).toNat < (ltr j).toNat; omega
  have h2 : ltr i ≠ ltr j := fun e => by have := congrArg UInt8.toNat e; omega
  refine ⟨?_, fun e => h2 (by simpa using e)⟩
  simp [Op.bytesLess, h1, h2]
theorem less_self (X : UInt8) : (Op.bytesLess [102, X] [102, X] || ([102, X] : List UInt8) == [102, X]) = true := by simp
theorem mutsT_mem : ∀ (c i : Nat) (x : Mut), x ∈ mutsT n c i → ∃ j, i ≤ j ∧ j < i + c ∧ x.1 = [102, ltr j]
  | 0, i, x, h => by simp [mutsT] at h
  | c + 1, i, x, h => by
    rw [mutsT, List.mem_append] at h
    rcases h with h | h
    · obtain ⟨k, _, rfl⟩ := List.mem_map.1 h
      exact ⟨i, by omega, by omega, rfl⟩
    · obtain ⟨j, a, b, e⟩ := mutsT_mem c (i + 1) x h
      exact ⟨j, by omega, by omega, e⟩
theorem mutsT_lt : ∀ (c i : Nat), i + c ≤ 16 → (mutsT n c i).Pairwise MLt
  | 0, i, _ => List.Pairwise.nil
  | c + 1, i, h => by
    rw [mutsT, List.pairwise_append]
    refine ⟨?_, mutsT_lt c (i + 1) (by omega), fun a ha b hb => ?_⟩
    · rw [List.pairwise_map]
      refine List.pairwise_lt_range.imp fun {p q} hpq => ⟨less_self _, fun _ => ?_⟩
      simp only
      omega
    · obtain ⟨k, _, rfl⟩ := List.mem_map.1 ha
      obtain ⟨j, a, b', e⟩ := mutsT_mem n c (i + 1) b hb
      have := less_two (i := i) (j := j) (by omega) (by omega)
      exact ⟨by rw [e]; exact this.1, fun x => absurd (x.trans e) this.2⟩
theorem prog_muts (F : Nat) (hF : F ≤ 16) : (listM (progN n F)).length = min (F * n) 400 ∧ (listM (progN n F)).Pairwise MLt := by
  have e : listM (progN n F) = (mutsT n F 0).take 400 := by
    show (allM (trees n F 0)).take 400 = _
    rw [allM_trees]
  rw [e, List.length_take, mutsT_len]
  exact ⟨Nat.min_comm _ _, (mutsT_lt n F 0 (by omega)).sublist (List.take_sublist _ _)⟩
end Go.Proofs.YtpagdhbmbnoddaaGreatDoor.Zz
/- The law of most mutants. -/
namespace Go.Proofs.YtpagdhbmbnoddaaGreatDoor.Zz
noncomputable section
set_option linter.unusedVariables false
set_option linter.unusedSimpArgs false
set_option maxRecDepth 20000
def p3m : Plan := ⟨⟨[], [], [(22, 3), (22, 8), (22, 16), (22, 21), (22, 29), (22, 34)], [], [], []⟩, [(22, [0, 1, 2, 3, 4, 5, 6, 7, 8, 9, 10, 11, 12, 13, 14, 15, 16, 17, 18, 19, 20, 21, 22, 23, 24, 25, 26, 27, 28, 29, 30, 31, 32, 33, 34, 35, 36, 37, 38, 39])], [], false⟩
/-- cupel/cupellaw15.MutateMost (2 parameters, 0 captured) -/
def s3m : Stm :=
 .seq (.ops [⟨.mov (.c (.bool false)), (some 4), none, true⟩])
 (.seq (.ops [⟨.mov (.t 0), (some 16), none, true⟩,
 ⟨.bin .and (.t 16) (.c (.int .i64 15)), (some 17), none, true⟩,
 ⟨.bin .add (.t 17) (.c (.int .i64 1)), (some 18), none, true⟩,
 ⟨.mov (.t 1), (some 19), none, true⟩,
 ⟨.bin .and (.t 19) (.c (.int .i64 31)), (some 20), none, true⟩,
 ⟨.mov (.t 18), (some 5), none, true⟩,
 ⟨.mov (.t 20), (some 6), none, true⟩])
 (.seq (.ops [⟨.mov (.c (.str [])), (some 7), none, true⟩])
 (.seq (.seq (.ops [⟨.mov (.c (.int .i64 0)), (some 8), none, true⟩])
 (.block 0 (.loop (.seq (.seq (.ops [⟨.mov (.t 8), (some 21), none, true⟩,
 ⟨.mov (.t 5), (some 22), none, true⟩,
 ⟨.bin .lss (.t 21) (.t 22), (some 23), none, true⟩])
 (.cond (.t 23)
 (.skip)
 (.exit 0)))
 (.seq (.block 1 (.seq (.ops [⟨.mov (.t 7), (some 26), none, true⟩,
 ⟨.mov (.t 8), (some 27), none, true⟩,
 ⟨.bin .add (.c (.int .i64 97)) (.t 27), (some 28), none, true⟩,
 ⟨.conv (.intInt .u8) (.t 28), (some 29), none, true⟩,
 ⟨.buildSlice 1 [(.int .u8 0)] 1 [(0, (.t 29))] false, (some 30), none, true⟩,
 ⟨.conv .bytesStr (.t 30), (some 31), none, false⟩,
 ⟨.bin .add (.c (.str [102, 117, 110, 99, 32, 102])) (.t 31), (some 32), none, true⟩,
 ⟨.bin .add (.t 32) (.c (.str [40, 97, 32, 105, 110, 116, 41, 32, 105, 110, 116, 32, 123, 32, 114, 101, 116, 117, 114, 110, 32, 97])), (some 33), none, true⟩,
 ⟨.bin .add (.t 26) (.t 33), (some 34), none, true⟩,
 ⟨.mov (.t 34), (some 7), none, true⟩])
 (.seq (.seq (.ops [⟨.mov (.c (.int .i64 0)), (some 9), none, true⟩])
 (.block 2 (.loop (.seq (.seq (.ops [⟨.mov (.t 9), (some 35), none, true⟩,
 ⟨.mov (.t 6), (some 36), none, true⟩,
 ⟨.bin .lss (.t 35) (.t 36), (some 37), none, true⟩])
 (.cond (.t 37)
 (.skip)
 (.exit 2)))
 (.seq (.block 3 (.ops [⟨.mov (.t 7), (some 40), none, true⟩,
 ⟨.bin .add (.t 40) (.c (.str [43, 97])), (some 41), none, true⟩,
 ⟨.mov (.t 41), (some 7), none, true⟩]))
 (.ops [⟨.mov (.t 9), (some 38), none, true⟩,
 ⟨.bin .add (.t 38) (.c (.int .i64 1)), (some 39), none, true⟩,
 ⟨.mov (.t 39), (some 9), none, true⟩]))))))
 (.ops [⟨.mov (.t 7), (some 42), none, true⟩,
 ⟨.bin .add (.t 42) (.c (.str [59, 32, 125])), (some 43), none, true⟩,
 ⟨.mov (.t 43), (some 7), none, true⟩]))))
 (.ops [⟨.mov (.t 8), (some 24), none, true⟩,
 ⟨.bin .add (.t 24) (.c (.int .i64 1)), (some 25), none, true⟩,
 ⟨.mov (.t 25), (some 8), none, true⟩]))))))
 (.seq (.ops [⟨.mov (.t 7), (some 45), none, true⟩,
 ⟨.qcall (.f 7) [(.t 45)], (some 46), none, false⟩,
 ⟨.mov (.t 46), (some 44), none, true⟩,
 ⟨.extract (.t 44) 0, (some 47), none, true⟩,
 ⟨.extract (.t 44) 1, (some 48), none, true⟩,
 ⟨.extract (.t 44) 2, (some 49), none, true⟩,
 ⟨.alloc [(.int .i64 0), (.int .i64 0), (.str []), (.int .i64 0), .nilsl], (some 10), none, false⟩,
 ⟨.store 5 (.t 10) (.t 47), none, none, false⟩,
 ⟨.mov (.t 48), (some 11), none, true⟩,
 ⟨.mov (.t 49), (some 12), none, true⟩])
 (.seq (.seq (.ops [⟨.mov (.t 12), (some 50), none, true⟩,
 ⟨.bin .neq (.t 50) (.c (.int .i64 0)), (some 51), none, true⟩])
 (.cond (.t 51)
 (.seq (.ops [⟨.qcall (.f 8) [], (some 52), none, false⟩,
 ⟨.mov (.t 52), (some 4), none, true⟩])
 (.ret))
 (.skip)))
 (.seq (.ops [⟨.load (some 5) (.t 10), (some 53), none, false⟩,
 ⟨.qcall (.f 9) [(.t 53)], (some 54), none, false⟩,
 ⟨.mov (.t 54), (some 13), none, true⟩])
 (.seq (.ops [⟨.mov (.t 5), (some 55), none, true⟩,
 ⟨.mov (.t 6), (some 56), none, true⟩,
 ⟨.bin .mul (.t 55) (.t 56), (some 57), none, true⟩,
 ⟨.minmax false (.t 57) (.c (.int .i64 400)), (some 58), none, true⟩,
 ⟨.mov (.t 58), (some 14), none, true⟩])
 (.seq (.seq (.ops [⟨.qcall (.f 8) [], (some 59), none, false⟩,
 ⟨.un .not (.t 59), (some 60), none, true⟩,
 ⟨.mov (.t 60), (some 61), none, true⟩,
 ⟨.mov (.t 13), (some 62), (some (61, false)), true⟩,
 ⟨.len .sl (.t 62), (some 63), (some (61, false)), false⟩,
 ⟨.mov (.t 14), (some 64), (some (61, false)), true⟩,
 ⟨.bin .neq (.t 63) (.t 64), (some 65), (some (61, false)), true⟩,
 ⟨.pick (.t 61) (.c (.bool true)) (.t 65), (some 66), none, true⟩])
 (.cond (.t 66)
 (.seq (.ops [⟨.mov (.c (.bool false)), (some 4), none, true⟩])
 (.ret))
 (.skip)))
 (.seq (.seq (.ops [⟨.mov (.c (.int .i64 1)), (some 15), none, true⟩])
 (.block 4 (.loop (.seq (.seq (.ops [⟨.mov (.t 15), (some 67), none, true⟩,
 ⟨.mov (.t 13), (some 68), none, true⟩,
 ⟨.len .sl (.t 68), (some 69), none, false⟩,
 ⟨.bin .lss (.t 67) (.t 69), (some 70), none, true⟩])
 (.cond (.t 70)
 (.skip)
 (.exit 4)))
 (.seq (.block 5 (.seq (.opsD [⟨.mov (.t 13), (some 73), none, true⟩,
 ⟨.mov (.t 15), (some 74), none, true⟩,
 ⟨.bin .sub (.t 74) (.c (.int .i64 1)), (some 75), none, true⟩,
 ⟨.indexAddrS 3 (.t 73) (.t 75), (some 76), none, false⟩,
 ⟨.fieldAddr 0 (.t 76), (some 77), none, true⟩,
 ⟨.load none (.t 77), (some 78), none, false⟩,
 ⟨.mov (.t 13), (some 79), none, true⟩,
 ⟨.mov (.t 15), (some 80), none, true⟩,
 ⟨.indexAddrS 3 (.t 79) (.t 80), (some 81), none, false⟩,
 ⟨.fieldAddr 0 (.t 81), (some 82), none, true⟩,
 ⟨.load none (.t 82), (some 83), none, false⟩,
 ⟨.bin .gtr (.t 78) (.t 83), (some 84), none, true⟩,
 ⟨.mov (.t 84), (some 85), none, true⟩,
 ⟨.mov (.t 13), (some 86), (some (85, false)), true⟩,
 ⟨.mov (.t 15), (some 87), (some (85, false)), true⟩,
 ⟨.bin .sub (.t 87) (.c (.int .i64 1)), (some 88), (some (85, false)), true⟩,
 ⟨.indexAddrS 3 (.t 86) (.t 88), (some 89), (some (85, false)), false⟩,
 ⟨.fieldAddr 0 (.t 89), (some 90), (some (85, false)), true⟩,
 ⟨.load none (.t 90), (some 91), (some (85, false)), false⟩,
 ⟨.mov (.t 13), (some 92), (some (85, false)), true⟩,
 ⟨.mov (.t 15), (some 93), (some (85, false)), true⟩,
 ⟨.indexAddrS 3 (.t 92) (.t 93), (some 94), (some (85, false)), false⟩,
 ⟨.fieldAddr 0 (.t 94), (some 95), (some (85, false)), true⟩,
 ⟨.load none (.t 95), (some 96), (some (85, false)), false⟩,
 ⟨.bin .eql (.t 91) (.t 96), (some 97), (some (85, false)), true⟩,
 ⟨.mov (.t 97), (some 98), (some (85, false)), true⟩,
 ⟨.mov (.t 13), (some 99), (some (98, true)), true⟩,
 ⟨.mov (.t 15), (some 100), (some (98, true)), true⟩,
 ⟨.bin .sub (.t 100) (.c (.int .i64 1)), (some 101), (some (98, true)), true⟩,
 ⟨.indexAddrS 3 (.t 99) (.t 101), (some 102), (some (98, true)), false⟩,
 ⟨.fieldAddr 1 (.t 102), (some 103), (some (98, true)), true⟩,
 ⟨.load none (.t 103), (some 104), (some (98, true)), false⟩,
 ⟨.mov (.t 13), (some 105), (some (98, true)), true⟩,
 ⟨.mov (.t 15), (some 106), (some (98, true)), true⟩,
 ⟨.indexAddrS 3 (.t 105) (.t 106), (some 107), (some (98, true)), false⟩,
 ⟨.fieldAddr 1 (.t 107), (some 108), (some (98, true)), true⟩,
 ⟨.load none (.t 108), (some 109), (some (98, true)), false⟩,
 ⟨.bin .geq (.t 104) (.t 109), (some 110), (some (98, true)), true⟩,
 ⟨.pick (.t 98) (.t 110) (.c (.bool false)), (some 111), (some (85, false)), true⟩,
 ⟨.pick (.t 85) (.c (.bool true)) (.t 111), (some 112), none, true⟩])
 (.cond (.t 112)
 (.seq (.ops [⟨.mov (.c (.bool false)), (some 4), none, true⟩])
 (.ret))
 (.skip))))
 (.ops [⟨.mov (.t 15), (some 71), none, true⟩,
 ⟨.bin .add (.t 71) (.c (.int .i64 1)), (some 72), none, true⟩,
 ⟨.mov (.t 72), (some 15), none, true⟩]))))))
 (.seq (.ops [⟨.mov (.c (.bool true)), (some 4), none, true⟩])
 (.ret)))))))))))
theorem st3m : stmOf Tryz.prog 3 p3m = some (s3m, [.tmp 4], 113) := by kernel_rfl

/-- A text's program, with so much fuel. -/
def qParse (f : Nat) : List D → Option D
  | [.str x] => (parseF f x).map fun y => .tuple [.agg y.1.enc, .int .i64 y.2.1, .int .i64 y.2.2]
  | _ => none
theorem qParse_ok (f : Nat) (args : List D) (d : D) (h : qParse f args = some d) : PCall Tryz.prog 7 args d := by
  unfold qParse at h
  split at h
  · simp only [Option.map_eq_some_iff] at h
    obtain ⟨⟨n, a, e⟩, h1, rfl⟩ := h
    exact parse_c f _ n a e h1
  · cases h
theorem andW (m : Int) (k : Nat) (hk : k < 1024) : ∃ a : Nat, a ≤ k ∧ IntKind.i64.wrap ((BitVec.ofInt IntKind.i64.bits m &&& BitVec.ofInt IntKind.i64.bits (k : Int)).toNat : Int) = a := by
  have e1 : (BitVec.ofInt IntKind.i64.bits (k : Int)).toNat = k := by
    rw [BitVec.toNat_ofInt]
    show ((k : Int) % 18446744073709551616).toNat = k
    omega
  refine ⟨(BitVec.ofInt IntKind.i64.bits m &&& BitVec.ofInt IntKind.i64.bits (k : Int)).toNat, ?_, ?_⟩
  · rw [BitVec.toNat_and, e1]; exact Nat.and_le_right
  · have : (BitVec.ofInt IntKind.i64.bits m &&& BitVec.ofInt IntKind.i64.bits (k : Int)).toNat ≤ k := by rw [BitVec.toNat_and, e1]; exact Nat.and_le_right
    exact wrap_i64 (by omega) (by omega)
def preT (n : Nat) : Nat → List UInt8
  | 0 => []
  | i + 1 => preT n i ++ fnText (ltr i) n []
theorem fnText_app (X : UInt8) (n : Nat) (r : List UInt8) : fnText X n r = fnText X n [] ++ r := by
  unfold fnText
  simp only [List.cons_append, tPlus_app, List.nil_append]
theorem pre_all (n : Nat) : ∀ c i, preT n i ++ progT n c i = preT n (i + c)
  | 0, i => by simp [progT]
  | c + 1, i => by
    rw [progT, fnText_app, ← List.append_assoc, show i + (c + 1) = i + 1 + c by omega, ← pre_all n c (i + 1)]
    rfl
def qP5 : List D → Option D := qParse 5
theorem qP5_ok (args : List D) (d : D) (h : qP5 args = some d) : PCall Tryz.prog 7 args d := qParse_ok 5 args d h
theorem askE_encMs {K : D → AHeap → Prop} {h : AHeap} {l : List Mut} {i : Nat} {x : Mut} (e : l[i]? = some x) : askE 3 K h (encMs l) (i : Int) = K (.eptr (encMu x) 0) h := by
  have h1 := (List.getElem?_eq_some_iff.1 e).1
  have := askE_map (K := K) (h := h) (l := l) (i := (i : Int)) (f := encMu) (sz := 3) fun _ => rfl
  show askE 3 K h (l.map encMu) (i : Int) = _
  rw [this]
  apply propext
  constructor
  · intro hh; exact hh.2 _ (by simpa using e)
  · intro hh
    refine ⟨⟨by omega, by omega⟩, fun y hy => ?_⟩
    rw [Int.toNat_natCast, e] at hy
    cases hy
    exact hh
def tl8 : Tab := Tab.zero.addQ 7 qP5
theorem tl8_q (g : FuncId) (args : List D) : tl8.q g args = if g = 7 then qP5 args else Tab.zero.q g args := rfl
theorem tl8_a : tl8.a = Tab.zero.a := rfl
theorem tl8_c : tl8.c = Tab.zero.c := rfl
theorem tl8_ok : tl8.ok Tryz.prog := Tab.addQ_ok (Tab.zero_ok _) qP5_ok
theorem tl8_e : type_of% (And.intro @tl8_q (And.intro @tl8_a @tl8_c)) := (And.intro @tl8_q (And.intro @tl8_a @tl8_c))

def tl9 : Tab := tl8.addQ 9 q9m
theorem tl9_q (g : FuncId) (args : List D) : tl9.q g args = if g = 9 then q9m args else tl8.q g args := rfl
theorem tl9_a : tl9.a = tl8.a := rfl
theorem tl9_c : tl9.c = tl8.c := rfl
theorem tl9_ok : tl9.ok Tryz.prog := Tab.addQ_ok tl8_ok q9m_ok
theorem tl9_e : type_of% (And.intro (And.intro @tl9_q (And.intro @tl9_a @tl9_c)) @tl8_e) := (And.intro (And.intro @tl9_q (And.intro @tl9_a @tl9_c)) @tl8_e)

def q8m : List D → Option D
  | [] => some (.bool true)
  | _ => none
theorem q8m_ok (args : List D) (d : D) (h : q8m args = some d) : PCall Tryz.prog 8 args d := by
  unfold q8m at h
  split at h
  · cases h; exact awakeM_c
  · cases h
def tl10 : Tab := tl9.addQ 8 q8m
theorem tl10_q (g : FuncId) (args : List D) : tl10.q g args = if g = 8 then q8m args else tl9.q g args := rfl
theorem tl10_a : tl10.a = tl9.a := rfl
theorem tl10_c : tl10.c = tl9.c := rfl
theorem tl10_ok : tl10.ok Tryz.prog := Tab.addQ_ok tl9_ok q8m_ok
theorem tl10_e : type_of% (And.intro (And.intro @tl10_q (And.intro @tl10_a @tl10_c)) @tl9_e) := (And.intro (And.intro @tl10_q (And.intro @tl10_a @tl10_c)) @tl9_e)

set_option maxHeartbeats 1000000 in
theorem mutateMost_c (a b : Int) : PCall Tryz.prog 3 [.int .i64 a, .int .i64 b] (.bool true) := by
  refine PCall.run tl10_ok st3m (by simp) fun E => ?_
  obtain ⟨f0, hf0, ef⟩ := andW a 15 (by omega)
  obtain ⟨n, hn, en⟩ := andW b 31 (by omega)
  have ef : IntKind.i64.wrap ((BitVec.ofInt IntKind.i64.bits a &&& BitVec.ofInt IntKind.i64.bits 15).toNat : Int) = f0 := ef
  have en : IntKind.i64.wrap ((BitVec.ofInt IntKind.i64.bits b &&& BitVec.ofInt IntKind.i64.bits 31).toNat : Int) = n := en
  have wf : IntKind.i64.wrap ((f0 : Int) + 1) = ((f0 + 1 : Nat) : Int) := wrap_succ (by omega)
  simp (config := {maxSteps := 1000000}) only [s3m, ef, en, wf, tl10_e, zzK, seval]
  have hlen : ∀ i, i ≤ 16 → (preT n i).length ≤ 1600 := fun i hi => by
    have e := congrArg List.length (pre_all n i 0)
    rw [Nat.zero_add, List.length_append, progT_len] at e
    have : i * (32 + 2 * n) ≤ 16 * 94 := Nat.mul_le_mul hi (by omega)
    simp [preT] at e
    omega
  refine run_loop (X := Nat) (fun i => [(5, .int .i64 ((f0 + 1 : Nat) : Int)), (6, .int .i64 n), (7, .str (preT n i)), (8, .int .i64 i)]) (fun _ => AHeap.emp) (fun i => f0 + 1 - i) (fun i => i ≤ f0 + 1) 0 (Nat.zero_le _) (by simp only [preT, tl10_e, zzK, seval]) (AHeap.sub_refl _) ?_
  intro i Q hi hQ
  by_cases ci : i < f0 + 1
  · have g : ((i : Int) < ((f0 + 1 : Nat) : Int)) = True := eq_true (by omega)
    have wi : IntKind.i64.wrap ((i : Int) + 1) = ((i + 1 : Nat) : Int) := wrap_succ (by omega)
    have wa : IntKind.i64.wrap (97 + (i : Int)) = ((97 + i : Nat) : Int) := by rw [wrap_i64 (by omega) (by omega)]; omega
    have wb : IntKind.u8.wrap ((97 + i : Nat) : Int) = ((97 + i : Nat) : Int) := by
      have : ∀ i : Fin 16, IntKind.u8.wrap ((97 + i.1 : Nat) : Int) = ((97 + i.1 : Nat) : Int) := by decide
      exact this ⟨i, by omega⟩
    have hl := hlen i (by omega)
    simp (config := {maxSteps := 1000000}) only [g, wi, wa, wb, tl10_e, zzK, seval]
    refine ⟨by omega, ?_⟩
    obtain ⟨T0, hT0⟩ : ∃ T0, T0 = preT n i ++ [102, 117, 110, 99, 32, 102, UInt8.ofNat (97 + i), 40, 97, 32, 105, 110, 116, 41, 32, 105, 110, 116, 32, 123, 32, 114, 101, 116, 117, 114, 110, 32, 97] := ⟨_, rfl⟩
    have hT1 : T0.length ≤ 1700 := by rw [hT0, List.length_append]; simp; omega
    rw [← hT0]
    refine run_loop (X := Nat) (fun k => [(5, .int .i64 ((f0 + 1 : Nat) : Int)), (6, .int .i64 n), (7, .str (T0 ++ tPlus k [])), (8, .int .i64 i), (9, .int .i64 k)]) (fun _ => AHeap.emp) (fun k => n - k) (fun k => k ≤ n) 0 (Nat.zero_le _) (by simp only [tPlus, List.append_nil, tl10_e, zzK, seval]) (AHeap.sub_refl _) ?_
    intro k Q2 hk hQ2
    by_cases ck : k < n
    · have gk : ((k : Int) < (n : Int)) = True := eq_true (by omega)
      have wk : IntKind.i64.wrap ((k : Int) + 1) = ((k + 1 : Nat) : Int) := wrap_succ (by omega)
      have htk : T0 ++ tPlus k [] ++ [43, 97] = T0 ++ tPlus (k + 1) [] := by rw [List.append_assoc, tPlus_app, List.nil_append, tPlus_end]
      have hlk : (T0 ++ tPlus k []).length ≤ 1800 := by rw [List.length_append, tPlus_len]; simp; omega
      simp (config := {maxSteps := 1000000}) only [gk, wk, htk, tl10_e, zzK, seval]
      refine ⟨by omega, hQ2 (k + 1) _ _ (by omega) (by simp only [zzK, seval]) (AHeap.sub_refl _) (by omega)⟩
    · have e0 : k = n := by omega
      subst e0
      have gk : ((k : Int) < (k : Int)) = False := eq_false (by omega)
      have hlk : (T0 ++ tPlus k []).length ≤ 1800 := by rw [List.length_append, tPlus_len]; simp; omega
      have hend : T0 ++ tPlus k [] ++ [59, 32, 125] = preT k (i + 1) := by
        rw [hT0, preT, fnText, List.append_assoc, List.append_assoc, tPlus_app]
        rfl
      simp (config := {maxSteps := 1000000}) only [gk, wi, hend, tl10_e, zzK, seval]
      refine ⟨by omega, hQ (i + 1) _ _ (by omega) (by simp only [zzK, seval]) (AHeap.sub_refl _) (by omega)⟩
  · have e0 : i = f0 + 1 := by omega
    subst e0
    have g : (((f0 + 1 : Nat) : Int) < ((f0 + 1 : Nat) : Int)) = False := eq_false (by omega)
    have hpre : preT n (f0 + 1) = progT n (f0 + 1) 0 := by
      have := pre_all n (f0 + 1) 0
      rw [Nat.zero_add] at this
      rw [← this]; rfl
    have hp : qP5 [.str (preT n (f0 + 1))] = some (.tuple [.agg (progN n (f0 + 1)).enc, .int .i64 0, .int .i64 0]) := by
      rw [hpre]
      show (parseF 5 (progT n (f0 + 1) 0)).map _ = _
      rw [prog_parse n (f0 + 1) hn (by omega)]; rfl
    have hc := cnt_prog n (f0 + 1) hn (by omega)
    have hq9 := q9m_eq _ hc
    obtain ⟨m1, m2⟩ := prog_muts n (f0 + 1) (by omega)
    generalize progN n (f0 + 1) = p at hp hq9 m1 m2 hc
    generalize listM p = L at hq9 m1 m2
    have hp5 := len_enc p
    have hpo := enc_ok p
    obtain ⟨pk, pt, ps, pm, pl⟩ := p
    rw [enc_mk] at *
    have hq8 : q8m [] = some (.bool true) := rfl
    simp (config := {maxSteps := 1000000}) only [g, hp, hq9, hq8, len_encMs, tl10_e, zzK, seval]
    intro i1 _
    have wm : IntKind.i64.wrap (((f0 + 1 : Nat) : Int) * (n : Int)) = (((f0 + 1) * n : Nat) : Int) := by
      have h1 : (f0 + 1) * n ≤ 16 * 31 := Nat.mul_le_mul (by omega) hn
      rw [← Int.natCast_mul]
      exact wrap_i64 (by omega) (by omega)
    have hln : ((L.length : Int) != if (400 : Int) < IntKind.i64.wrap (((f0 + 1 : Nat) : Int) * (n : Int)) then 400 else IntKind.i64.wrap (((f0 + 1 : Nat) : Int) * (n : Int))) = false := by
      rw [wm, m1, bne_eq_false_iff_eq]
      generalize (f0 + 1) * n = q
      rw [Nat.min_def]
      split <;> split <;> omega
    rw [hln]
    simp only [Bool.false_eq_true, if_false]
    refine run_loop (X := Nat) (fun i => [(13, .sl (encMs L)), (15, .int .i64 i)]) (fun _ => AHeap.emp) (fun i => L.length - i) (fun i => 1 ≤ i) 1 (Nat.le_refl _) (by simp only [tl10_e, zzK, seval]) (AHeap.emp_sub _) ?_
    intro i Q hi hQ
    by_cases ci : i < L.length
    · have gi : ((i : Int) < (L.length : Int)) = True := eq_true (by omega)
      have hm : L.length ≤ 400 := by rw [m1]; omega
      have wi : IntKind.i64.wrap ((i : Int) + 1) = ((i + 1 : Nat) : Int) := wrap_succ (by omega)
      have wp : IntKind.i64.wrap ((i : Int) - 1) = ((i - 1 : Nat) : Int) := by
        rw [wrap_i64 (by omega) (by omega)]; omega
      obtain ⟨x, hx⟩ : ∃ x, L[i - 1]? = some x := ⟨_, List.getElem?_eq_getElem (by omega)⟩
      obtain ⟨y, hy⟩ : ∃ y, L[i]? = some y := ⟨_, List.getElem?_eq_getElem ci⟩
      have hlt : MLt x y := by
        rw [List.pairwise_iff_getElem] at m2
        have := m2 (i - 1) i (by omega) ci (by omega)
        rw [(List.getElem?_eq_some_iff.1 hx).2, (List.getElem?_eq_some_iff.1 hy).2] at this
        exact this
      have hax : ∀ (K : D → AHeap → Prop) (h : AHeap), askE 3 K h (encMs L) ((i - 1 : Nat) : Int) = K (.eptr (encMu x) 0) h := fun K h => askE_encMs hx
      have hay : ∀ (K : D → AHeap → Prop) (h : AHeap), askE 3 K h (encMs L) (i : Int) = K (.eptr (encMu y) 0) h := fun K h => askE_encMs hy
      simp (config := {maxSteps := 1000000}) only [gi, wp, wi, hax, hay, encMu, len_encMs, tl10_e, zzK, seval]
      intro _
      rw [hlt.1]
      simp only [Bool.not_true, Bool.false_eq_true, if_false]
      by_cases e : x.1 = y.1
      · have e' : (x.1 == y.1) = true := by simpa using e
        have := hlt.2 e
        rw [if_pos e', if_neg (by omega)]
        exact hQ (i + 1) _ _ (by omega) (by simp only [zzK, seval]) (AHeap.sub_refl _) (by omega)
      · have e' : ¬ (x.1 == y.1) = true := by simpa using e
        rw [if_neg e']
        exact hQ (i + 1) _ _ (by omega) (by simp only [zzK, seval]) (AHeap.sub_refl _) (by omega)
    · have gi : ((i : Int) < (L.length : Int)) = False := eq_false (by omega)
      simp (config := {maxSteps := 1000000}) only [gi, len_encMs, tl10_e, zzK, seval]
end
end Go.Proofs.YtpagdhbmbnoddaaGreatDoor.Zz
/- From a contract to a row: what a law's call leaves behind, and its arguments as plain data. -/
set_option linter.unusedVariables false
set_option linter.unusedSimpArgs false
namespace Go.Proofs.YtpagdhbmbnoddaaGreatDoor.Zz
open Go.RowKit

/-- All that was there does not change. -/
def old (w : World) : Kap := { imm := fun b => b < w.heap.size, loc := fun _ => none }
theorem old_inv [Globs] (w : World) (hg : GlobRep (old w) w) : Inv (old w) .emp w :=
  ⟨fun b h => h, fun i p h => (by cases h), ⟨0, fun _ _ => rfl⟩, fun i o h => (by cases h), fun i j oi oj pi pj h => (by cases h), hg⟩

theorem law_of [Globs] {P : Program} {f : FuncId} {args : List D} (c : PCall P f args (.bool true)) {vs : Array Value} {w : World} (hg : GlobRep (old w) w) (hr : RepL (old w) w vs.toList args) :
    Calls P f vs w fun e w' => e = .returned (.bool true) ∧ Below w.heap.size w w' :=
  (c.2 (old w) w vs (old_inv w hg) hr).mono fun e w' ⟨o, h', κ', e1, r, i, ev⟩ => by
    subst e1
    cases r with
    | ret r =>
      cases r
      refine ⟨rfl, ev.os, ev.tape, ev.output, ev.size, fun k hk => ev.blocks k hk fun ho => ?_⟩
      obtain ⟨id, o, p, h, _⟩ := ho
      simp at h

theorem rep_string {κ : Kap} {w : World} {s : ByteArray} (h : s.size ≤ maxLen) : Rep κ w (.string s) (.str s.data.toList) := by
  have := Rep.str (κ := κ) (w := w) s.data.toList (by
    have : s.data.toList.length = s.size := by simp
    rw [this]
    have h2 : maxLen ≤ 9223372036854775807 := by decide
    omega)
  simpa using this

theorem cell_lt {w : World} {b o : Nat} {v : Value} (h : w.cell? ⟨b, o, none⟩ = some v) : b < w.heap.size := by
  simp only [World.cell?] at h
  cases e : w.heap[b]? with
  | none => simp [e] at h
  | some x => exact (Array.getElem?_eq_some_iff.1 e).1

/-- A slice of single cells that came in. -/
theorem rep_slice1 {w : World} {a : Addr} {len cap : Nat} (f : Nat → Value) (g : Nat → D) (hl : len ≤ cap) (hm : cap ≤ maxLen) (hc : ∀ i, i < len → w.cell? (a.add i) = some (f i)) (hr : ∀ i, i < len → Rep (old w) w (f i) (g i)) :
    Rep (old w) w (.slice (some a) len cap) (.sl ((List.range len).map fun i => [g i])) := by
  by_cases h0 : len = 0
  · subst h0; exact .slnil (fun h => by cases h)
  · obtain ⟨b, o, sp⟩ := a
    have hs : sp = none := by simpa [Addr.add] using World.cell?_spot (hc 0 (by omega))
    subst hs
    have h2 : maxLen ≤ 9223372036854775807 := by decide
    have get : ∀ {i : Nat} {x : List D} {j : Nat} {d : D}, ((List.range len).map fun i => [g i])[i]? = some x → x[j]? = some d → i < len ∧ j = 0 ∧ d = g i := fun {i x j d} h1 h3 => by
      rw [List.getElem?_map] at h1
      by_cases hi : i < len
      · rw [List.getElem?_range hi] at h1
        simp only [Option.map_some, Option.some.injEq] at h1
        subst h1
        cases j with
        | zero => simp at h3; exact ⟨hi, rfl, h3.symm⟩
        | succ j => simp at h3
      · rw [List.getElem?_eq_none (by simp; omega)] at h1; cases h1
    have hcell : ∀ i, i < len → w.cell? ⟨b, o + i, none⟩ = some (f i) := fun i hi => by
      have := hc i hi
      unfold Addr.add at this
      split at this
      · rename_i e; subst e; simpa using this
      · simpa using this
    refine Rep.sl_of (sz := 1) (by simp) (fun i _ => f i) (by simp; omega) (by simp; omega) (by simp) (fun i x j d h1 h3 => ?_) (fun i x j d h1 h3 => ?_)
    · obtain ⟨hi, rfl, rfl⟩ := get h1 h3
      have := hcell i hi
      exact ⟨cell_lt this, by simpa using this⟩
    · obtain ⟨hi, rfl, rfl⟩ := get h1 h3
      exact hr i hi

section
variable {H : Type} {enc : TypeId × Value → H} {P : Program} {w : World} {spare : Nat → Bool} {held : Bool}
theorem ints_rep {t e : TypeId} {k : IntKind} {a : Option Addr} {len cap : Nat} {d : DataW H} {ps : List MemPlace} (ht : P.underlying t = some (.slice e)) (he : P.underlying e = some (.int k)) (hc : P.cellsOf e = 1)
    (h : DataW.Trod enc P w 0 spare held t (.slice a len cap) d ps) : ∃ l : List Int, (∀ n ∈ l, (Lit.int k n).wf = true) ∧ Rep (old w) w (.slice a len cap) (.sl (l.map fun n => [.int k n])) := by
  obtain ⟨fuel, hf⟩ := h
  rcases Go.ChangeShapes.open_ints ht he hc hf with ⟨hcs, _⟩ | ⟨x, l, c, zs, hcs, _, hl, hm, hz, _, hcell, hwz⟩
  · simp [Value.cells] at hcs
    obtain ⟨rfl, rfl, rfl⟩ := hcs
    exact ⟨[], by simp, .slnil (fun _ => rfl)⟩
  · simp [Value.cells] at hcs
    obtain ⟨rfl, rfl, rfl⟩ := hcs
    have hlz : len ≤ zs.length := by rw [hz]; split <;> omega
    refine ⟨(List.range len).map fun i => zs.getD i 0, ?_, ?_⟩
    · intro n hn
      obtain ⟨i, hi, rfl⟩ := List.mem_map.1 hn
      have hi := List.mem_range.1 hi
      apply hwz
      rw [List.getD_eq_getElem?_getD, List.getElem?_eq_getElem (by omega)]
      exact List.getElem_mem _
    · rw [List.map_map]
      exact rep_slice1 (fun i => .int k (zs.getD i 0)) (fun i => .int k (zs.getD i 0)) hl hm (fun i hi => hcell i (by omega)) (fun i hi => .int k _)
theorem strs_rep {t e : TypeId} {a : Option Addr} {len cap : Nat} {d : DataW H} {ps : List MemPlace} (ht : P.underlying t = some (.slice e)) (he : P.underlying e = some .string) (hc : P.cellsOf e = 1)
    (h : DataW.Trod enc P w 0 spare held t (.slice a len cap) d ps) : ∃ l : List (List UInt8), Rep (old w) w (.slice a len cap) (.sl (l.map fun s => [.str s])) := by
  obtain ⟨fuel, hf⟩ := h
  rcases Go.Deep.open_strs ht he hc hf with ⟨hcs, _⟩ | ⟨x, l, c, m, Sx, hcs, _, hl, hm, hz, _, hcell⟩
  · simp [Value.cells] at hcs
    obtain ⟨rfl, rfl, rfl⟩ := hcs
    exact ⟨[], .slnil (fun _ => rfl)⟩
  · simp [Value.cells] at hcs
    obtain ⟨rfl, rfl, rfl⟩ := hcs
    have hlz : len ≤ m := by rw [hz]; split <;> omega
    refine ⟨(List.range len).map fun i => (Sx i).data.toList, ?_⟩
    · rw [List.map_map]
      exact rep_slice1 (fun i => .string (Sx i)) (fun i => .str (Sx i).data.toList) hl hm (fun i hi => (hcell i (by omega)).1) (fun i hi => rep_string (hcell i (by omega)).2)
/-- A struct of two whole numbers that came in. -/
theorem pair_rep {κ : Kap} {t : TypeId} {f0 f1 : Field} {k0 k1 : IntKind} {cs : Array Value} {d : DataW H} {ps : List MemPlace} (ht : P.underlying t = some (.struct #[f0, f1])) (h0 : P.underlying f0.type = some (.int k0)) (h1 : P.underlying f1.type = some (.int k1))
    (hc : P.cellsOf t = 2) (c0 : P.cellsOf f0.type = 1) (c1 : P.cellsOf f1.type = 1) (o0 : f0.offset = 0) (o1 : f1.offset = 1)
    (h : DataW.Trod enc P w 0 spare held t (.agg cs) d ps) : ∃ n m : Int, (Lit.int k0 n).wf = true ∧ (Lit.int k1 m).wf = true ∧ Rep κ w (.agg cs) (.agg [.int k0 n, .int k1 m]) := by
  obtain ⟨fuel, hf⟩ := h
  obtain ⟨y0, y1, n, _, hl, g0, g1⟩ := Go.ChangeShapes.trod_struct2 ht hf
  rw [o0, c0] at g0
  rw [o1, c1] at g1
  rw [hc] at hl
  obtain ⟨a, e0, _, w0⟩ := DataW.trod_int h0 g0
  obtain ⟨b, e1, _, w1⟩ := DataW.trod_int h1 g1
  simp only [Value.cells] at hl e0 e1
  have hcs : cs = #[.int k0 a, .int k1 b] := by
    obtain ⟨l⟩ := cs
    match l, hl with
    | [u, v], _ =>
      simp at e0 e1
      rw [e0, e1]
  subst hcs
  refine ⟨a, b, w0, w1, .agg rfl fun i d hd => ?_⟩
  match i, hd with
  | 0, hd => simp at hd; subst hd; exact .int _ _
  | 1, hd => simp at hd; subst hd; exact .int _ _
end
end Go.Proofs.YtpagdhbmbnoddaaGreatDoor.Zz
/- From what a card lists of package-level variables to what the logic asks of them; the wrap that keeps both what is listed and the world's shape. -/
set_option linter.unusedVariables false
set_option linter.unusedSimpArgs false
namespace Go.Proofs.YtpagdhbmbnoddaaGreatDoor.Zz
open Go.RowKit

section
variable {P : Program} {w : World}
theorem laid_get : ∀ {laid : List (String × DataW Unit)} {ps : List MemPlace}, DataW.LaidVars P w laid ps → ∀ {i : Nat} {n : String} {d : DataW Unit}, laid[i]? = some (n, d) →
    ∃ g t cs fuel p, P.globalNamed n = some g ∧ (P.globals[g]?).map (·.type) = some t ∧ w.var? P n = some cs ∧ DataW.trod (fun _ => ()) P w 0 (fun _ => true) false fuel t cs.toList = some (d, p) ∧ ∀ x ∈ MemPlace.row ⟨g, 0, none⟩ cs.size, x ∈ ps
  | [], ps, _, i, n, d, e => by simp at e
  | (m, c) :: r, ps, h, i, n, d, e => by
    obtain ⟨g, t, cs, fuel, p, q, h1, h2, h3, h4, h5, h6⟩ := h
    cases i with
    | zero =>
      cases e
      exact ⟨g, t, cs, fuel, p, h1, h2, h3, h4, fun x hx => by rw [h6]; simp [hx]⟩
    | succ i =>
      obtain ⟨g', t', cs', fuel', p', k1, k2, k3, k4, k5⟩ := laid_get h5 (i := i) (by simpa using e)
      exact ⟨g', t', cs', fuel', p', k1, k2, k3, k4, fun x hx => by rw [h6]; simp [k5 x hx]⟩
/-- An array of whole numbers that is listed. -/
theorem laid_ints {κ : Kap} {laid : List (String × DataW Unit)} (h : laidMet P laid w) {i : Nat} {n : String} {g N : Nat} {t e : TypeId} {k : IntKind} (zs : List Int) (hm : laid[i]? = some (n, .agg (zs.map fun z => .lit (.int k z))))
    (hg : P.globalNamed n = some g) (ht : (P.globals[g]?).map (·.type) = some t) (hu : P.underlying t = some (.array N e)) (he : P.underlying e = some (.int k)) (hc : P.cellsOf t = N) (ce : P.cellsOf e = 1) (h0 : 0 < N) :
    ∃ (cs : Array Value) (ty : TypeId), w.heap[g]? = some (.cells cs ty (0, 0)) ∧ cs.size = zs.length ∧ ∀ (j : Nat) (d : D), (zs.map fun z => D.int k z)[j]? = some d → ∃ v, cs[j]? = some v ∧ Rep κ w v d := by
  obtain ⟨ps, hl, _, hcell⟩ := h
  obtain ⟨g', t', cs, fuel, p, k1, k2, k3, k4, k5⟩ := laid_get hl hm
  rw [hg] at k1
  cases k1
  rw [ht] at k2
  cases k2
  obtain ⟨xs, m, _, hx, hs, hn, hat⟩ := DataW.trod_array hu k4
  rw [ce] at hat
  have hcs : cs.size = N := by simpa [hc] using hs
  have hzx : zs.map (fun z => DataW.lit (H := Unit) (.int k z)) = xs.map (·.1) := by injection hx with h1 h2; injection h1
  have hzl : zs.length = N := by have := congrArg List.length hzx; simp at this; omega
  obtain ⟨c, ty, hh⟩ := (hcell g 0 (k5 _ (by
    simp only [MemPlace.row, List.mem_map, List.mem_range]
    exact ⟨0, by omega, rfl⟩))).1
  have hcc : c = cs := by
    simp only [World.var?, hg, Option.bind_some, hh] at k3
    exact Option.some.inj k3
  subst hcc
  refine ⟨c, ty, hh, by omega, fun j d hd => ?_⟩
  have hj : j < N := by have := (List.getElem?_eq_some_iff.1 hd).1; simp at this; omega
  have g1 := hat j hj
  have e1 : (c.toList.drop (j * 1)).take 1 = [c[j]'(by omega)] := by
    rw [Nat.mul_one, List.drop_eq_getElem_cons (by simp; omega)]
    simp
  rw [e1, List.getElem?_eq_getElem (by omega)] at g1
  obtain ⟨a, e2, e3, _⟩ := DataW.trod_int he g1
  have e4 : c[j]'(by omega) = .int k a := by simpa using e2
  have e5 : zs[j]'(by omega) = a := by
    have := congrArg (fun l : List (DataW Unit) => l[j]?) hzx
    simp only [List.getElem?_map, List.getElem?_eq_getElem (show j < zs.length by omega), List.getElem?_eq_getElem (show j < xs.length by omega), Option.map_some, Option.some.injEq] at this
    rw [e3] at this
    simpa using this
  have e6 : d = .int k a := by
    simp only [List.getElem?_map, List.getElem?_eq_getElem (show j < zs.length by omega), Option.map_some, Option.some.injEq, e5] at hd
    exact hd.symm
  refine ⟨.int k a, by rw [Array.getElem?_eq_getElem (by omega), e4], ?_⟩
  rw [e6]
  exact .int k a
end

section
variable {H : Type} {enc : TypeId × Value → H}
theorem returns_both {a : Assume} {C : Checked} {os : Os} {f : FuncId} {fn : Func} {s : ChangeSpec} {conds : List PathCond} {apart fresh handsOn again : Bool} {X : World → Array Value → Prop}
    (hX : ∀ (w w' : World) (args : Array Value), w.heap = w'.heap → X w args → X w' args)
    (own : ownKnob C.prog.godebug = none) (started : os.Started) (noInit : C.prog.inits.idxOf? f = none) (hfn : C.prog.funcs[f]? = some fn)
    (witness : ∃ (w : World) (tape : Tape) (i : Input), w.os = os ∧ (w.forCall tape i).Shaped C.prog ∧ i.vars = [] ∧ Input.okWide C.prog (w.forCall tape i) .any w.heap.size f i ∧
      ((s.pre enc C.prog fn conds apart (w.forCall tape i).memory i.args ∧ X (w.forCall tape i).memory i.args) ∧ sizedMet enc C.prog fn (OpenSpec.ofChange s) apart (w.forCall tape i).memory i.args) ∧ a.holds C.prog (lone (Frame.enter C.prog f i.args .normal) [] (w.forCall tape i)))
    (contract : ∀ (W : World) (base : Nat) (args : Array Value) (ds gs : List (DataW H)) (before : List MemPlace),
      (∀ (j : Nat) t v, fn.params[j]? = some t → args[j]? = some v → Value.okWide C.prog W .any base t v) →
      DataW.Whole enc C.prog fn.params.toList s.vars apart W args.toList ds gs before →
      conds.all (PathCond.test C.prog ⟨fn.params.toList, ds, s.plain.varTypes C.prog, gs⟩) = true → X W args → W.ShapedOpen C.prog →
      Calls C.prog f args W fun e W' => ∃ v, e = .returned v ∧ s.post enc C.prog fn apart fresh handsOn again W args v W') :
    ReturnsInHanded a C os f .any (fun w args => (s.pre enc C.prog fn conds apart w args ∧ X w args) ∧ sizedMet enc C.prog fn (OpenSpec.ofChange s) apart w args) (s.post enc C.prog fn apart fresh handsOn again) := by
  refine returnsInHanded_of_calls own started noInit witness ?_
  intro w tape i _ hsh _ hok hpre _
  obtain ⟨_, _, _, fn', hfn', _, _, _, _, hval⟩ := hok
  have e : fn' = fn := Option.some.inj (hfn'.symm.trans hfn)
  subst e
  obtain ⟨⟨⟨ds, gs, before, hw, hc⟩, hx⟩, hz⟩ := hpre
  have hw' := DataW.Whole.of_heap (w' := w.forCall tape i) (by rfl) hw
  refine (contract (w.forCall tape i) w.heap.size i.args ds gs before hval hw' hc (hX _ _ _ (by rfl) hx) hsh).mono fun e W' ⟨v, he, hp⟩ => ?_
  subst he
  exact ChangeSpec.post_blind hp
end
/-- The cells of a table of whole numbers. -/
def cellsOf : DataW Unit → List Value
  | .agg xs => xs.flatMap fun
    | .lit (.int k n) => [.int k n]
    | .agg ys => ys.flatMap fun
      | .lit (.int k n) => [.int k n]
      | _ => []
    | _ => []
  | _ => []
/-- A world in which blocks hold these cells. -/
def fillAt (h : Array Obj) : List (Nat × Array Value) → Array Obj
  | [] => h
  | (g, cs) :: r => fillAt (h.modify g fun
      | .cells _ t fz => .cells cs t fz
      | o => o) r
/-- A call of plain data leaves whatever lies there as it was. -/
theorem PCall.toA [Globs] {P : Program} {f : FuncId} {args : List D} {d : D} (hv : PCall P f args d) (h : AHeap) : ACalls P f args h fun o h' => o = .ret d ∧ h' = h := by
  refine ⟨hv.1, fun κ w vs hi hr => ?_⟩
  have sub := AHeap.emp_sub h
  refine (hv.2 κ w vs (hi.sub sub) hr).mono fun e w' ⟨o, h', κ'', a0, a2, a3, a4⟩ => ?_
  subst a0
  obtain ⟨f1, f2, _⟩ := hi.frame sub a3 a4
  have sub2 : h.sub (h'.union (h.minus .emp)) := fun id o ho => by
    obtain ⟨p, hp, _⟩ := hi.obj id o ho
    have := a4.ids id p hp rfl
    simpa [AHeap.union, AHeap.minus, this] using ho
  exact ⟨.ret d, h, κ'', ⟨rfl, rfl⟩, a2, f1.sub sub2, { f2 with own := fun b hb ho => f2.own b hb (ho.sub sub2), ids := fun id p hp hn => hn }⟩
end Go.Proofs.YtpagdhbmbnoddaaGreatDoor.Zz
