/- Parsing, told of the words alone that are ahead: where it goes well, the parser does the same. -/
import Derived.Test.YtpagdhbmbnoddaaGreatDoorZP6
import Derived.Test.YtpagdhbmbnoddaaGreatDoorZP3
import Derived.Test.YtpagdhbmbnoddaaGreatDoorZP16
import Derived.KernelRfl
set_option linter.unnecessarySimpa false
set_option linter.unusedVariables false
set_option linter.unusedSimpArgs false
set_option maxRecDepth 100000
namespace Go.Proofs.YtpagdhbmbnoddaaGreatDoor.Zz
noncomputable section
abbrev Wd := Int × List UInt8
abbrev SR (α : Type) := Option (α × List Wd × Int)
section
variable {α β : Type}
def stripT (l : List Tok) : List Wd := l.map fun t => (t.1, t.2.1)
def vw (l : List Tok) (s : PS) : List Wd := stripT (l.drop s.pos.toNat)
theorem vw_len (l : List Tok) (s : PS) : (vw l s).length ≤ l.length := by simp [vw, stripT]
theorem vw_nil {l : List Tok} {s : PS} (h : vw l s = []) : pNow l s = (0, [], 0) := by
  simp only [vw, stripT, List.map_eq_nil_iff, List.drop_eq_nil_iff] at h
  simp [pNow, h]
theorem vw_cons {l : List Tok} {s : PS} {k : Int} {w : List UInt8} {r : List Wd} (hp : 0 ≤ s.pos) (h : vw l s = (k, w) :: r) : (pNow l s).1 = k ∧ (pNow l s).2.1 = w ∧ vw l (pStep s) = r := by
  simp only [vw, stripT] at h
  cases e : l.drop s.pos.toNat with
  | nil => rw [e] at h; cases h
  | cons t q =>
    rw [e] at h
    simp only [List.map_cons, List.cons.injEq, Prod.mk.injEq] at h
    have e1 : l.getD s.pos.toNat (0, [], 0) = t := by
      have := congrArg (fun l : List Tok => l[0]?) e
      simp only [List.getElem?_drop, Nat.add_zero, List.getElem?_cons_zero] at this
      rw [List.getD_eq_getElem?_getD, this]; rfl
    have e2 : l.drop (s.pos.toNat + 1) = q := by
      rw [← List.drop_drop, e]; rfl
    refine ⟨by rw [pNow, e1]; exact h.1.1, by rw [pNow, e1]; exact h.1.2, ?_⟩
    have e3 : (s.pos + 1).toNat = s.pos.toNat + 1 := by omega
    simp only [vw, pStep, e3, e2, stripT]
    exact h.2
def Rel (l : List Tok) (r : PR α) (q : SR α) (d : Int) : Prop := ∀ x ws m, q = some (x, ws, m) → ∃ s' : PS, r = .ok x s' ∧ vw l s' = ws ∧ s'.nods = m ∧ s'.deep = d ∧ 0 ≤ s'.pos
theorem Rel.none {l : List Tok} {r : PR α} {d : Int} : Rel l r none d := fun _ _ _ e => by cases e
theorem Rel.ok {l : List Tok} {x : α} {s : PS} {d : Int} (h1 : s.deep = d) (h2 : 0 ≤ s.pos) : Rel l (.ok x s) (some (x, vw l s, s.nods)) d := fun y ws m e => by
  cases e; exact ⟨s, rfl, rfl, rfl, h1, h2⟩
theorem Rel.ok' {l : List Tok} {x : α} {s : PS} {d : Int} {ws : List Wd} (h1 : s.deep = d) (h2 : 0 ≤ s.pos) (h3 : vw l s = ws) : Rel l (.ok x s) (some (x, ws, s.nods)) d := fun y ws m e => by
  cases e; exact ⟨s, rfl, h3, rfl, h1, h2⟩
theorem Rel.bind {l : List Tok} {r : PR α} {q : SR α} {k : α → PS → PR β} {kk : α × List Wd × Int → SR β} {d d' : Int} (h : Rel l r q d) (hk : ∀ x s', s'.deep = d → 0 ≤ s'.pos → Rel l (k x s') (kk (x, vw l s', s'.nods)) d') : Rel l (r.bind k) (q.bind kk) d' := fun z ws m e => by
  cases hq : q with
  | none => rw [hq] at e; cases e
  | some y =>
    obtain ⟨x, w1, m1⟩ := y
    obtain ⟨s1p, rfl, rfl, rfl, a, b⟩ := h x w1 m1 hq
    rw [hq] at e
    exact hk x s1p a b z ws m e
theorem Rel.cond {l : List Tok} {c : Bool} {r r' : PR α} {q q' : SR α} {d : Int} (h : Rel l r q d) (h' : Rel l r' q' d) : Rel l (bif c then r else r') (bif c then q else q') d := by cases c <;> assumption
def sIs (x : List UInt8) : List Wd → Bool
  | [] => false
  | (k, w) :: _ => w == x && (k == 5 || k == 4)
theorem sIs_ok {l : List Tok} {s : PS} {x : List UInt8} (hp : 0 ≤ s.pos) : pIs l x s = sIs x (vw l s) := by
  cases e : vw l s with
  | nil => simp [pIs, vw_nil e, sIs]
  | cons t r =>
    obtain ⟨k, w⟩ := t
    obtain ⟨a, b, _⟩ := vw_cons hp e
    simp [pIs, a, b, sIs]
theorem vw_step {l : List Tok} {s : PS} (hp : 0 ≤ s.pos) : vw l (pStep s) = (vw l s).tail := by
  cases e : vw l s with
  | nil =>
    have e3 : (s.pos + 1).toNat = s.pos.toNat + 1 := by omega
    simp only [vw, stripT, List.map_eq_nil_iff, List.drop_eq_nil_iff] at e
    simp only [vw, stripT, pStep, e3, List.tail_nil, List.map_eq_nil_iff, List.drop_eq_nil_iff]
    omega
  | cons t r =>
    obtain ⟨k, w⟩ := t
    exact (vw_cons hp e).2.2
def sTake (x : List UInt8) (ws : List Wd) (m : Int) : SR Bool := bif sIs x ws then some (true, ws.tail, m) else some (false, ws, m)
theorem sTake_ok {l : List Tok} {s : PS} {x : List UInt8} {d : Int} (hp : 0 ≤ s.pos) (hd : s.deep = d) : Rel l (pTake l x s) (sTake x (vw l s) s.nods) d := by
  unfold pTake sTake
  rw [sIs_ok hp]
  exact Rel.cond (Rel.ok' (s := pStep s) hd (by simp only [pStep]; omega) (vw_step hp)) (Rel.ok hd hp)
def sMust (x : List UInt8) (ws : List Wd) (m : Int) : SR Unit := bif sIs x ws then some ((), ws.tail, m) else none
theorem sMust_ok {l : List Tok} {s : PS} {x : List UInt8} {d : Int} (hp : 0 ≤ s.pos) (hd : s.deep = d) : Rel l (pMust l x s) (sMust x (vw l s) s.nods) d := by
  unfold pMust sMust
  rw [sIs_ok hp]
  exact Rel.cond (Rel.ok' (s := pStep s) hd (by simp only [pStep]; omega) (vw_step hp)) Rel.none
def sKind : List Wd → Int
  | [] => 0
  | t :: _ => t.1
def sWord : List Wd → List UInt8
  | [] => []
  | t :: _ => t.2
theorem sKind_ok {l : List Tok} {s : PS} (hp : 0 ≤ s.pos) : (pNow l s).1 = sKind (vw l s) := by
  cases e : vw l s with
  | nil => rw [vw_nil e]; rfl
  | cons t r => obtain ⟨k, w⟩ := t; exact (vw_cons hp e).1
theorem sWord_ok {l : List Tok} {s : PS} (hp : 0 ≤ s.pos) : (pNow l s).2.1 = sWord (vw l s) := by
  cases e : vw l s with
  | nil => rw [vw_nil e]; rfl
  | cons t r => obtain ⟨k, w⟩ := t; exact (vw_cons hp e).2.1
def sName (ws : List Wd) (m : Int) : SR (List UInt8) := bif sKind ws == 1 then some (sWord ws, ws.tail, m) else none
theorem sName_ok {l : List Tok} {s : PS} {d : Int} (hp : 0 ≤ s.pos) (hd : s.deep = d) : Rel l (pName l s) (sName (vw l s) s.nods) d := by
  unfold pName sName
  rw [sKind_ok hp, sWord_ok hp]
  exact Rel.cond (Rel.ok' (s := pStep s) hd (by simp only [pStep]; omega) (vw_step hp)) Rel.none
def sTyp (ws : List Wd) (m : Int) : SR Int := bif sIs wInt ws then some (1, ws.tail, m) else bif sIs wFloat ws then some (2, ws.tail, m) else bif sIs wBool ws then some (3, ws.tail, m) else none
theorem sTyp_ok {l : List Tok} {s : PS} {d : Int} (hp : 0 ≤ s.pos) (hd : s.deep = d) : Rel l (pTyp l s) (sTyp (vw l s) s.nods) d := by
  have h : ∀ x : Int, Rel l (.ok x (pStep s)) (some (x, (vw l s).tail, s.nods)) d := fun x => Rel.ok' (s := pStep s) hd (by simp only [pStep]; omega) (vw_step hp)
  unfold pTyp sTyp
  rw [sIs_ok hp, sIs_ok hp, sIs_ok hp]
  exact Rel.cond (h _) (Rel.cond (h _) (Rel.cond (h _) Rel.none))
def sNode (n : Nd) (ws : List Wd) (m : Int) : SR Nd := if m + 1 > 2000 then none else some (n, ws, m + 1)
theorem sNode_ok {l : List Tok} {s : PS} {n : Nd} {d : Int} (hp : 0 ≤ s.pos) (hd : s.deep = d) : Rel l (pNode l n s) (sNode n (vw l s) s.nods) d := by
  unfold pNode sNode
  split
  · exact Rel.none
  · exact Rel.ok' (s := { s with nods := s.nods + 1 }) hd hp rfl
def sDeep (body : Int → List Wd → Int → SR α) (d : Int) (ws : List Wd) (m : Int) : SR α := if d + 1 > 40 then none else body (d + 1) ws m
theorem sDeep_ok {l : List Tok} {s : PS} {body : PS → PR α} {sb : Int → List Wd → Int → SR α} {d : Int} (hp : 0 ≤ s.pos) (hd : s.deep = d) (h : ∀ s', s'.deep = d + 1 → 0 ≤ s'.pos → Rel l (body s') (sb (d + 1) (vw l s') s'.nods) (d + 1)) : Rel l (pDeep l body s) (sDeep sb d (vw l s) s.nods) d := by
  unfold pDeep sDeep pIn
  subst hd
  split
  · exact Rel.none
  · intro x ws m e
    obtain ⟨s1p, e1, e2, e3, e4, e5⟩ := h { s with deep := s.deep + 1 } rfl hp x ws m e
    refine ⟨{ s1p with deep := s1p.deep - 1 }, ?_, e2, e3, by simp only; omega, e5⟩
    show pOff (body _) = _
    rw [e1]; rfl
def sLit1 (n : Nd) (ws : List Wd) (m : Int) : SR (Nd × Bool) := (sNode n ws.tail m).bind fun y => some ((y.1, true), y.2.1, y.2.2)
def sPlain (ws : List Wd) (m : Int) : SR (Nd × Bool) :=
  bif sKind ws == 2 then sLit1 (.mk 20 0 [] (valF (sWord ws) : Nat) []) ws m
  else bif sKind ws == 3 then sLit1 (floatN (sWord ws)) ws m
  else bif sIs wTrue ws then sLit1 (.mk 22 0 [] 1 []) ws m
  else bif sIs wFalse ws then sLit1 (.mk 22 0 [] 0 []) ws m
  else some ((.mk 0 0 [] 0 [], false), ws, m)
theorem sPlain_ok {l : List Tok} {s : PS} {d : Int} (hp : 0 ≤ s.pos) (hd : s.deep = d) : Rel l (pPlain l s) (sPlain (vw l s) s.nods) d := by
  have h : ∀ n : Nd, Rel l ((pNode l n (pStep s)).bind fun n s => .ok (n, true) s) (sLit1 n (vw l s) s.nods) d := fun n => by
    unfold sLit1
    have h1 := sNode_ok (l := l) (s := pStep s) (n := n) (d := d) (by simp only [pStep]; omega) hd
    rw [vw_step hp] at h1
    exact Rel.bind h1 fun x s' a b => Rel.ok a b
  unfold pPlain sPlain
  simp only [sIs_ok hp, sKind_ok hp, sWord_ok hp]
  exact Rel.cond (h _) (Rel.cond (h _) (Rel.cond (h _) (Rel.cond (h _) (Rel.ok hd hp))))
end
structure SRec where
  expr : Int → Int → List Wd → Int → SR Nd
  unary : Int → List Wd → Int → SR Nd
  call : List UInt8 → Int → List Wd → Int → SR Nd
  block : Int → List Wd → Int → SR Nd
  stmt : Int → List Wd → Int → SR Nd
  branch : Int → List Wd → Int → SR Nd
section
variable (g : SRec)
def sExprL (least d : Int) : Nat → Nd → List Wd → Int → SR Nd
  | 0, _, _, _ => none
  | j + 1, n, ws, m => bif sKind ws != 5 || decide (rankF (sWord ws) ≤ least) then some (n, ws, m)
    else (g.expr (rankF (sWord ws)) d ws.tail m).bind fun y => (sNode (.mk 26 0 (sWord ws) 0 [n, y.1]) y.2.1 y.2.2).bind fun z => sExprL least d j z.1 z.2.1 z.2.2
def sExpr (least : Int) : Int → List Wd → Int → SR Nd := sDeep fun d ws m => (g.unary d ws m).bind fun y => sExprL g least d (y.2.1.length + 1) y.1 y.2.1 y.2.2
def sUn (x : List UInt8) : Int → List Wd → Int → SR Nd := sDeep fun d ws m => (g.unary d ws m).bind fun y => sNode (.mk 25 0 x 0 [y.1]) y.2.1 y.2.2
def sConv (t : Int) (d : Int) (ws : List Wd) (m : Int) : SR Nd := (sMust [40] ws m).bind fun y => (g.expr 0 d y.2.1 y.2.2).bind fun y => (sNode (.mk 27 t [] 0 [y.1]) y.2.1 y.2.2).bind fun z => (sMust [41] z.2.1 z.2.2).bind fun y => some (z.1, y.2.1, y.2.2)
def sUnary (d : Int) (ws : List Wd) (m : Int) : SR Nd :=
  (sTake [45] ws m).bind fun y => bif y.1 then sUn g [45] d y.2.1 y.2.2 else
  (sTake [33] y.2.1 y.2.2).bind fun y => bif y.1 then sUn g [33] d y.2.1 y.2.2 else
  (sPlain y.2.1 y.2.2).bind fun y => bif y.1.2 then some (y.1.1, y.2.1, y.2.2) else
  (sTake wInt y.2.1 y.2.2).bind fun y => bif y.1 then sConv g 1 d y.2.1 y.2.2 else
  (sTake wFloat y.2.1 y.2.2).bind fun y => bif y.1 then sConv g 2 d y.2.1 y.2.2 else
  (sTake [40] y.2.1 y.2.2).bind fun y => bif y.1 then (g.expr 0 d y.2.1 y.2.2).bind fun z => (sMust [41] z.2.1 z.2.2).bind fun y => some (z.1, y.2.1, y.2.2) else
  (sName y.2.1 y.2.2).bind fun y => bif sIs [40] y.2.1 then g.call y.1 d y.2.1 y.2.2 else sNode (.mk 23 0 y.1 0 []) y.2.1 y.2.2
def sCallL (d : Int) : Nat → Nd → List Wd → Int → SR Nd
  | 0, _, _, _ => none
  | j + 1, n, ws, m => (sTake [41] ws m).bind fun y => bif y.1 then some (n, y.2.1, y.2.2) else
    (bif decide (n.kidsOf.length > 0) then sMust [44] y.2.1 y.2.2 else some ((), y.2.1, y.2.2)).bind fun y =>
    bif decide (n.kidsOf.length ≥ 6) then none else (g.expr 0 d y.2.1 y.2.2).bind fun y => sCallL d j (n.addKid y.1) y.2.1 y.2.2
def sCall (x : List UInt8) : Int → List Wd → Int → SR Nd := sDeep fun d ws m => (sNode (.mk 24 0 x 0 []) ws m).bind fun y => (sMust [40] y.2.1 y.2.2).bind fun z => sCallL g d (z.2.1.length + 1) y.1 z.2.1 z.2.2
def sBlockL (d : Int) : Nat → Nd → List Wd → Int → SR Nd
  | 0, _, _, _ => none
  | j + 1, n, ws, m => (sTake [125] ws m).bind fun y => bif y.1 then some (n, y.2.1, y.2.2) else
    bif decide (n.kidsOf.length ≥ 32) then none else (g.stmt d y.2.1 y.2.2).bind fun y => sBlockL d j (n.addKid y.1) y.2.1 y.2.2
def sBlock : Int → List Wd → Int → SR Nd := sDeep fun d ws m => (sMust [123] ws m).bind fun y => (sNode (.mk 6 0 [] 0 []) y.2.1 y.2.2).bind fun y => sBlockL g d (y.2.1.length + 1) y.1 y.2.1 y.2.2
def sSimple (k : Int) (x : List UInt8) (d : Int) (ws : List Wd) (m : Int) : SR Nd := (sNode (.mk k 0 x 0 []) ws m).bind fun y => (g.expr 0 d y.2.1 y.2.2).bind fun e => (sMust [59] e.2.1 e.2.2).bind fun z => some (y.1.setKids [e.1], z.2.1, z.2.2)
def sStmt (d : Int) (ws : List Wd) (m : Int) : SR Nd :=
  (sTake wIf ws m).bind fun y => bif y.1 then g.branch d y.2.1 y.2.2 else
  (sTake wFor y.2.1 y.2.2).bind fun y => bif y.1 then (sNode (.mk 10 0 [] 0 []) y.2.1 y.2.2).bind fun n => (g.expr 0 d n.2.1 n.2.2).bind fun e => (g.block d e.2.1 e.2.2).bind fun b => some (n.1.setKids [e.1, b.1], b.2.1, b.2.2) else
  (sTake wReturn y.2.1 y.2.2).bind fun y => bif y.1 then sSimple g 11 [] d y.2.1 y.2.2 else
  (sTake wAssert y.2.1 y.2.2).bind fun y => bif y.1 then sSimple g 12 [] d y.2.1 y.2.2 else
  (sTake wSkip y.2.1 y.2.2).bind fun y => bif y.1 then (sMust [59] y.2.1 y.2.2).bind fun y => sNode (.mk 14 0 [] 0 []) y.2.1 y.2.2 else
  (sName y.2.1 y.2.2).bind fun x =>
  (sTake [58, 61] x.2.1 x.2.2).bind fun y => bif y.1 then sSimple g 7 x.1 d y.2.1 y.2.2 else
  (sTake [61] y.2.1 y.2.2).bind fun y => bif y.1 then sSimple g 8 x.1 d y.2.1 y.2.2 else
  (sNode (.mk 13 0 [] 0 []) y.2.1 y.2.2).bind fun n => (g.call x.1 d n.2.1 n.2.2).bind fun c => (sMust [59] c.2.1 c.2.2).bind fun z => some (n.1.setKids [c.1], z.2.1, z.2.2)
def sBranch : Int → List Wd → Int → SR Nd := sDeep fun d ws m => (sNode (.mk 9 0 [] 0 []) ws m).bind fun n => (g.expr 0 d n.2.1 n.2.2).bind fun e => (g.block d e.2.1 e.2.2).bind fun b =>
  (sTake wElse b.2.1 b.2.2).bind fun t => bif !t.1 then some (n.1.setKids [e.1, b.1], t.2.1, t.2.2) else
  (sTake wIf t.2.1 t.2.2).bind fun t => bif t.1 then (sNode (.mk 6 0 [] 0 []) t.2.1 t.2.2).bind fun q => (g.branch d q.2.1 q.2.2).bind fun x => some ((n.1.setKids [e.1, b.1]).addKid (q.1.setKids [x.1]), x.2.1, x.2.2)
  else (g.block d t.2.1 t.2.2).bind fun b2 => some ((n.1.setKids [e.1, b.1]).addKid b2.1, b2.2.1, b2.2.2)
end
def sF : Nat → SRec
  | 0 => ⟨fun _ _ _ _ => none, fun _ _ _ => none, fun _ _ _ _ => none, fun _ _ _ => none, fun _ _ _ => none, fun _ _ _ => none⟩
  | f + 1 => ⟨sExpr (sF f), sUnary (sF f), sCall (sF f), sBlock (sF f), sStmt (sF f), sBranch (sF f)⟩
structure RRel (l : List Tok) (p : PRec) (g : SRec) : Prop where
  expr : ∀ k s d, 0 ≤ s.pos → s.deep = d → Rel l (p.expr k s) (g.expr k d (vw l s) s.nods) d
  unary : ∀ s d, 0 ≤ s.pos → s.deep = d → Rel l (p.unary s) (g.unary d (vw l s) s.nods) d
  call : ∀ x s d, 0 ≤ s.pos → s.deep = d → Rel l (p.call x s) (g.call x d (vw l s) s.nods) d
  block : ∀ s d, 0 ≤ s.pos → s.deep = d → Rel l (p.block s) (g.block d (vw l s) s.nods) d
  stmt : ∀ s d, 0 ≤ s.pos → s.deep = d → Rel l (p.stmt s) (g.stmt d (vw l s) s.nods) d
  branch : ∀ s d, 0 ≤ s.pos → s.deep = d → Rel l (p.branch s) (g.branch d (vw l s) s.nods) d
section
variable {l : List Tok} {p : PRec} {g : SRec} (h : RRel l p g)
include h
theorem sExprL_ok {k d : Int} : ∀ (J j : Nat) (n : Nd) (s : PS), J ≤ j → 0 ≤ s.pos → s.deep = d → Rel l (exprL l p k j n s) (sExprL g k d J n (vw l s) s.nods) d
  | 0, _, n, s, _, _, _ => Rel.none
  | J + 1, 0, n, s, hj, _, _ => by omega
  | J + 1, j + 1, n, s, hj, hp, hd => by
    unfold exprL sExprL
    rw [sKind_ok hp, sWord_ok hp]
    refine Rel.cond (Rel.ok hd hp) ?_
    have h1 := h.expr (rankF (sWord (vw l s))) (pStep s) d (by simp only [pStep]; omega) hd
    rw [vw_step hp] at h1
    refine Rel.bind h1 fun x s1p a b => ?_
    exact Rel.bind (sNode_ok b a) fun y s2p a b => sExprL_ok J j y s2p (by omega) b a
theorem sExpr_ok (k : Int) (s : PS) (d : Int) (hp : 0 ≤ s.pos) (hd : s.deep = d) : Rel l (exprG l p k s) (sExpr g k d (vw l s) s.nods) d := by
  unfold exprG sExpr
  refine sDeep_ok hp hd fun s1p a b => ?_
  refine Rel.bind (h.unary s1p (d + 1) b a) fun x s2p a b => ?_
  exact sExprL_ok h _ _ x s2p (Nat.add_le_add_right (vw_len l s2p) 1) b a
theorem sUn_ok (x : List UInt8) (s : PS) (d : Int) (hp : 0 ≤ s.pos) (hd : s.deep = d) : Rel l (pUn l p x s) (sUn g x d (vw l s) s.nods) d := by
  unfold pUn sUn
  refine sDeep_ok hp hd fun s1p a b => ?_
  exact Rel.bind (h.unary s1p (d + 1) b a) fun x s2p a b => sNode_ok b a
theorem sConv_ok (t : Int) (s : PS) (d : Int) (hp : 0 ≤ s.pos) (hd : s.deep = d) : Rel l (pConv l p t s) (sConv g t d (vw l s) s.nods) d := by
  unfold pConv sConv
  refine Rel.bind (sMust_ok hp hd) fun _ s1p a b => ?_
  refine Rel.bind (h.expr 0 s1p d b a) fun x s2p a b => ?_
  refine Rel.bind (sNode_ok b a) fun x s3p a b => ?_
  exact Rel.bind (sMust_ok b a) fun _ s4p a b => Rel.ok a b
theorem sUnary_ok (s : PS) (d : Int) (hp : 0 ≤ s.pos) (hd : s.deep = d) : Rel l (unaryG l p s) (sUnary g d (vw l s) s.nods) d := by
  unfold unaryG sUnary
  refine Rel.bind (sTake_ok hp hd) fun t s1p a b => Rel.cond (sUn_ok h _ s1p d b a) ?_
  refine Rel.bind (sTake_ok b a) fun t s1p a b => Rel.cond (sUn_ok h _ s1p d b a) ?_
  refine Rel.bind (sPlain_ok b a) fun t s1p a b => Rel.cond (Rel.ok a b) ?_
  refine Rel.bind (sTake_ok b a) fun t s1p a b => Rel.cond (sConv_ok h _ s1p d b a) ?_
  refine Rel.bind (sTake_ok b a) fun t s1p a b => Rel.cond (sConv_ok h _ s1p d b a) ?_
  refine Rel.bind (sTake_ok b a) fun t s1p a b => Rel.cond ?_ ?_
  · refine Rel.bind (h.expr 0 s1p d b a) fun x s2p a b => ?_
    exact Rel.bind (sMust_ok b a) fun _ s4p a b => Rel.ok a b
  · refine Rel.bind (sName_ok b a) fun x s2p a b => ?_
    rw [sIs_ok b]
    exact Rel.cond (h.call x s2p d b a) (sNode_ok b a)
theorem sCallL_ok {d : Int} : ∀ (J j : Nat) (n : Nd) (s : PS), J ≤ j → 0 ≤ s.pos → s.deep = d → Rel l (callL l p j n s) (sCallL g d J n (vw l s) s.nods) d
  | 0, _, n, s, _, _, _ => Rel.none
  | J + 1, 0, n, s, hj, _, _ => by omega
  | J + 1, j + 1, n, s, hj, hp, hd => by
    unfold callL sCallL
    refine Rel.bind (sTake_ok hp hd) fun t s1p a b => Rel.cond (Rel.ok a b) ?_
    refine Rel.bind (d := d) (Rel.cond (sMust_ok b a) (Rel.ok a b)) fun _ s2p a b => Rel.cond Rel.none ?_
    exact Rel.bind (h.expr 0 s2p d b a) fun x s3p a b => sCallL_ok J j _ s3p (by omega) b a
theorem sCall_ok (x : List UInt8) (s : PS) (d : Int) (hp : 0 ≤ s.pos) (hd : s.deep = d) : Rel l (callG l p x s) (sCall g x d (vw l s) s.nods) d := by
  unfold callG sCall
  refine sDeep_ok hp hd fun s1p a b => ?_
  refine Rel.bind (sNode_ok b a) fun n s2p a b => ?_
  exact Rel.bind (sMust_ok b a) fun _ s3p a b => sCallL_ok h _ _ n s3p (Nat.add_le_add_right (vw_len l s3p) 1) b a
theorem sBlockL_ok {d : Int} : ∀ (J j : Nat) (n : Nd) (s : PS), J ≤ j → 0 ≤ s.pos → s.deep = d → Rel l (blockL l p j n s) (sBlockL g d J n (vw l s) s.nods) d
  | 0, _, n, s, _, _, _ => Rel.none
  | J + 1, 0, n, s, hj, _, _ => by omega
  | J + 1, j + 1, n, s, hj, hp, hd => by
    unfold blockL sBlockL
    refine Rel.bind (sTake_ok hp hd) fun t s1p a b => Rel.cond (Rel.ok a b) (Rel.cond Rel.none ?_)
    exact Rel.bind (h.stmt s1p d b a) fun x s3p a b => sBlockL_ok J j _ s3p (by omega) b a
theorem sBlock_ok (s : PS) (d : Int) (hp : 0 ≤ s.pos) (hd : s.deep = d) : Rel l (blockG l p s) (sBlock g d (vw l s) s.nods) d := by
  unfold blockG sBlock
  refine sDeep_ok hp hd fun s1p a b => ?_
  refine Rel.bind (sMust_ok b a) fun _ s2p a b => ?_
  exact Rel.bind (sNode_ok b a) fun n s3p a b => sBlockL_ok h _ _ n s3p (Nat.add_le_add_right (vw_len l s3p) 1) b a
theorem sSimple_ok (k : Int) (x : List UInt8) (s : PS) (d : Int) (hp : 0 ≤ s.pos) (hd : s.deep = d) : Rel l (pSimple l p k x s) (sSimple g k x d (vw l s) s.nods) d := by
  unfold pSimple sSimple
  refine Rel.bind (sNode_ok hp hd) fun n s1p a b => ?_
  refine Rel.bind (h.expr 0 s1p d b a) fun e s2p a b => ?_
  exact Rel.bind (sMust_ok b a) fun _ s4p a b => Rel.ok a b
theorem sStmt_ok (s : PS) (d : Int) (hp : 0 ≤ s.pos) (hd : s.deep = d) : Rel l (stmtG l p s) (sStmt g d (vw l s) s.nods) d := by
  unfold stmtG sStmt
  refine Rel.bind (sTake_ok hp hd) fun t s1p a b => Rel.cond (h.branch s1p d b a) ?_
  refine Rel.bind (sTake_ok b a) fun t s1p a b => Rel.cond ?_ ?_
  · refine Rel.bind (sNode_ok b a) fun n s2p a b => ?_
    refine Rel.bind (h.expr 0 s2p d b a) fun e s3p a b => ?_
    exact Rel.bind (h.block s3p d b a) fun b s4p a b => Rel.ok a b
  refine Rel.bind (sTake_ok b a) fun t s1p a b => Rel.cond (sSimple_ok h _ _ s1p d b a) ?_
  refine Rel.bind (sTake_ok b a) fun t s1p a b => Rel.cond (sSimple_ok h _ _ s1p d b a) ?_
  refine Rel.bind (sTake_ok b a) fun t s1p a b => Rel.cond ?_ ?_
  · exact Rel.bind (sMust_ok b a) fun _ s2p a b => sNode_ok b a
  refine Rel.bind (sName_ok b a) fun x s2p a b => ?_
  refine Rel.bind (sTake_ok b a) fun t s1p a b => Rel.cond (sSimple_ok h _ _ s1p d b a) ?_
  refine Rel.bind (sTake_ok b a) fun t s1p a b => Rel.cond (sSimple_ok h _ _ s1p d b a) ?_
  refine Rel.bind (sNode_ok b a) fun n s2p a b => ?_
  refine Rel.bind (h.call x s2p d b a) fun c s3p a b => ?_
  exact Rel.bind (sMust_ok b a) fun _ s4p a b => Rel.ok a b
theorem sBranch_ok (s : PS) (d : Int) (hp : 0 ≤ s.pos) (hd : s.deep = d) : Rel l (branchG l p s) (sBranch g d (vw l s) s.nods) d := by
  unfold branchG sBranch
  refine sDeep_ok hp hd fun s1p a b => ?_
  generalize d + 1 = d at a
  refine Rel.bind (sNode_ok b a) fun n s1p a b => ?_
  refine Rel.bind (h.expr 0 s1p d b a) fun e s1p a b => ?_
  refine Rel.bind (h.block s1p d b a) fun b1 s1p a b => ?_
  refine Rel.bind (sTake_ok b a) fun t s1p a b => Rel.cond (Rel.ok a b) ?_
  refine Rel.bind (sTake_ok b a) fun t s1p a b => Rel.cond ?_ ?_
  · refine Rel.bind (sNode_ok b a) fun q s1p a b => ?_
    exact Rel.bind (h.branch s1p d b a) fun x s1p a b => Rel.ok a b
  · exact Rel.bind (h.block s1p d b a) fun b2 s1p a b => Rel.ok a b
end
theorem sF_ok (l : List Tok) : ∀ f, RRel l (psF l f) (sF f)
  | 0 => ⟨fun _ _ _ _ _ => Rel.none, fun _ _ _ _ => Rel.none, fun _ _ _ _ _ => Rel.none, fun _ _ _ _ => Rel.none, fun _ _ _ _ => Rel.none, fun _ _ _ _ => Rel.none⟩
  | f + 1 => ⟨sExpr_ok (sF_ok l f), sUnary_ok (sF_ok l f), sCall_ok (sF_ok l f), sBlock_ok (sF_ok l f), sStmt_ok (sF_ok l f), sBranch_ok (sF_ok l f)⟩
section
variable (g : SRec)
def sParamL : Nat → Nd → List Wd → Int → SR Nd
  | 0, _, _, _ => none
  | j + 1, n, ws, m => (sTake [41] ws m).bind fun y => bif y.1 then some (n, y.2.1, y.2.2) else
    (bif decide (n.kidsOf.length > 0) then sMust [44] y.2.1 y.2.2 else some ((), y.2.1, y.2.2)).bind fun y =>
    bif decide (n.kidsOf.length ≥ 6) then none else
    (sName y.2.1 y.2.2).bind fun x => (sTyp x.2.1 x.2.2).bind fun t => (sNode (.mk 5 t.1 x.1 0 []) t.2.1 t.2.2).bind fun q => sParamL j (n.addKid q.1) q.2.1 q.2.2
def sLit (ws : List Wd) (m : Int) : SR Nd := (sTake [45] ws m).bind fun mi => (sPlain mi.2.1 mi.2.2).bind fun x =>
  bif !x.1.2 || (mi.1 && x.1.1.kind == 22) then none
  else some (bif mi.1 && x.1.1.kind == 20 then x.1.1.setN (IntKind.i64.wrap (0 - x.1.1.num)) else bif mi.1 && x.1.1.kind == 21 then x.1.1.setN (negB x.1.1.num) else x.1.1, x.2.1, x.2.2)
def sDecl (d : Int) (ws : List Wd) (m : Int) : SR Nd :=
  (sTake wVar ws m).bind fun y => bif y.1 then (sName y.2.1 y.2.2).bind fun x => (sTyp x.2.1 x.2.2).bind fun t => (sNode (.mk 2 t.1 x.1 0 []) t.2.1 t.2.2).bind fun n => (sMust [61] n.2.1 n.2.2).bind fun z => (sLit z.2.1 z.2.2).bind fun v => (sMust [59] v.2.1 v.2.2).bind fun z => some (n.1.setKids [v.1], z.2.1, z.2.2) else
  (sTake wTest y.2.1 y.2.2).bind fun y => bif y.1 then (sName y.2.1 y.2.2).bind fun x => (sNode (.mk 4 0 x.1 0 []) x.2.1 x.2.2).bind fun n => (g.block d n.2.1 n.2.2).bind fun b => some (n.1.setKids [b.1], b.2.1, b.2.2) else
  (sMust wFunc y.2.1 y.2.2).bind fun y => (sName y.2.1 y.2.2).bind fun x => (sNode (.mk 3 0 x.1 0 []) x.2.1 x.2.2).bind fun n => (sMust [40] n.2.1 n.2.2).bind fun z =>
  (sParamL (z.2.1.length + 1) n.1 z.2.1 z.2.2).bind fun n => (sTyp n.2.1 n.2.2).bind fun t => (g.block d t.2.1 t.2.2).bind fun b => some ((n.1.setT t.1).addKid b.1, b.2.1, b.2.2)
def sProgL (d : Int) : Nat → Int → Int → Nd → List Wd → Int → SR Nd
  | 0, _, _, _, _, _ => none
  | j + 1, fs, gs, n, ws, m => bif sKind ws != 0 then
      (bif decide ((bif sIs wVar ws then gs + 1 else gs) > 16) || decide ((bif sIs wVar ws then fs else fs + 1) > 32) then none else (sDecl g d ws m).bind fun y => sProgL d j (bif sIs wVar ws then fs else fs + 1) (bif sIs wVar ws then gs + 1 else gs) (n.addKid y.1) y.2.1 y.2.2)
    else some (n, ws, m)
def sProg (d : Int) (ws : List Wd) (m : Int) : SR Nd := (sNode (.mk 1 0 [] 0 []) ws m).bind fun y => sProgL g d (y.2.1.length + 1) 0 0 y.1 y.2.1 y.2.2
end
theorem sParamL_ok {l : List Tok} {d : Int} : ∀ (J j : Nat) (n : Nd) (s : PS), J ≤ j → 0 ≤ s.pos → s.deep = d → Rel l (paramL l j n s) (sParamL J n (vw l s) s.nods) d
  | 0, _, n, s, _, _, _ => Rel.none
  | J + 1, 0, n, s, hj, _, _ => by omega
  | J + 1, j + 1, n, s, hj, hp, hd => by
    unfold paramL sParamL
    refine Rel.bind (sTake_ok hp hd) fun t s1p a b => Rel.cond (Rel.ok a b) ?_
    refine Rel.bind (d := d) (Rel.cond (sMust_ok b a) (Rel.ok a b)) fun _ s2p a b => Rel.cond Rel.none ?_
    refine Rel.bind (sName_ok b a) fun x s3p a b => ?_
    refine Rel.bind (sTyp_ok b a) fun t s3p a b => ?_
    exact Rel.bind (sNode_ok b a) fun q s3p a b => sParamL_ok J j _ s3p (by omega) b a
theorem sLit_ok {l : List Tok} {d : Int} (s : PS) (hp : 0 ≤ s.pos) (hd : s.deep = d) : Rel l (pLit l s) (sLit (vw l s) s.nods) d := by
  unfold pLit sLit
  refine Rel.bind (sTake_ok hp hd) fun t s1p a b => ?_
  refine Rel.bind (sPlain_ok b a) fun x s2p a b => ?_
  exact Rel.cond Rel.none (Rel.ok a b)
theorem sDecl_ok {l : List Tok} {p : PRec} {g : SRec} (h : RRel l p g) {d : Int} (s : PS) (hp : 0 ≤ s.pos) (hd : s.deep = d) : Rel l (declG l p s) (sDecl g d (vw l s) s.nods) d := by
  unfold declG sDecl
  refine Rel.bind (sTake_ok hp hd) fun t s1p a b => Rel.cond ?_ ?_
  · refine Rel.bind (sName_ok b a) fun x s3p a b => ?_
    refine Rel.bind (sTyp_ok b a) fun t s3p a b => ?_
    refine Rel.bind (sNode_ok b a) fun n s3p a b => ?_
    refine Rel.bind (sMust_ok b a) fun _ s3p a b => ?_
    refine Rel.bind (sLit_ok _ b a) fun v s3p a b => ?_
    exact Rel.bind (sMust_ok b a) fun _ s3p a b => Rel.ok a b
  refine Rel.bind (sTake_ok b a) fun t s1p a b => Rel.cond ?_ ?_
  · refine Rel.bind (sName_ok b a) fun x s3p a b => ?_
    refine Rel.bind (sNode_ok b a) fun n s3p a b => ?_
    exact Rel.bind (h.block s3p d b a) fun _ s3p a b => Rel.ok a b
  refine Rel.bind (sMust_ok b a) fun _ s3p a b => ?_
  refine Rel.bind (sName_ok b a) fun x s3p a b => ?_
  refine Rel.bind (sNode_ok b a) fun n s3p a b => ?_
  refine Rel.bind (sMust_ok b a) fun _ s3p a b => ?_
  refine Rel.bind (sParamL_ok _ _ _ s3p (Nat.add_le_add_right (vw_len l s3p) 1) b a) fun n s3p a b => ?_
  refine Rel.bind (sTyp_ok b a) fun t s3p a b => ?_
  exact Rel.bind (h.block s3p d b a) fun _ s3p a b => Rel.ok a b
theorem sProgL_ok {l : List Tok} {p : PRec} {g : SRec} (h : RRel l p g) {d : Int} : ∀ (J j : Nat) (fs gs : Int) (n : Nd) (s : PS), J ≤ j → 0 ≤ s.pos → s.deep = d → Rel l (progL l p j fs gs n s) (sProgL g d J fs gs n (vw l s) s.nods) d
  | 0, _, fs, gs, n, s, _, _, _ => Rel.none
  | J + 1, 0, fs, gs, n, s, hj, _, _ => by omega
  | J + 1, j + 1, fs, gs, n, s, hj, hp, hd => by
    unfold progL sProgL
    simp only [sKind_ok hp, sIs_ok hp]
    refine Rel.cond (Rel.cond Rel.none ?_) (Rel.ok hd hp)
    exact Rel.bind (sDecl_ok h s hp hd) fun x s1p a b => sProgL_ok h J j _ _ _ s1p (by omega) b a
theorem sProg_ok {l : List Tok} {p : PRec} {g : SRec} (h : RRel l p g) {d : Int} (s : PS) (hp : 0 ≤ s.pos) (hd : s.deep = d) : Rel l (progG l p s) (sProg g d (vw l s) s.nods) d := by
  unfold progG sProg
  exact Rel.bind (sNode_ok hp hd) fun n s1p a b => sProgL_ok h _ _ _ _ n s1p (Nat.add_le_add_right (vw_len l s1p) 1) b a
theorem parse_of {x : List UInt8} {f : Nat} {n : Nd} {ws : List Wd} {m : Int} (h1 : (tokens x).2.2 = 0) (h2 : sProg (sF f) 0 (stripT (tokens x).1) 0 = some (n, ws, m)) : parseF f x = some (n, 0, 0) := by
  unfold parseF
  rw [if_pos h1]
  obtain ⟨s', e, _⟩ := sProg_ok (sF_ok (tokens x).1 f) ⟨0, 0, 0⟩ (Int.le_refl 0) rfl n ws m h2
  rw [e]
end
end Go.Proofs.YtpagdhbmbnoddaaGreatDoor.Zz
namespace Go.Proofs.YtpagdhbmbnoddaaGreatDoor.Zz
noncomputable section
theorem why_all (p : Nd) : Why p := fun i e h hi => by
  rw [oneF, List.getElem?_eq_getElem hi] at h
  simp only at h
  split at h
  · cases h; decide
  · exact declF_err h
open Classical in
def q14c (args : List D) : Option D := if h : ∃ x : Nd, args = [.agg x.enc] ∧ x.cnt ≤ 400000 then some (chkD (checkF (Classical.choose h))) else none
theorem q14c_enc {p : Nd} (hp : p.cnt ≤ 400000) : q14c [.agg p.enc] = some (chkD (checkF p)) := by
  have h : ∃ x : Nd, [D.agg p.enc] = [.agg x.enc] ∧ x.cnt ≤ 400000 := ⟨p, rfl, hp⟩
  rw [q14c, dif_pos h]
  have e := (Classical.choose_spec h).1
  injection e with e1
  injection e1 with e1
  rw [← enc_inj _ _ e1]
theorem q14c_ok (args : List D) (d : D) (h : q14c args = some d) : PCall Tryz.prog 14 args d := by
  unfold q14c at h
  split at h
  · rename_i hx
    have e := Classical.choose_spec hx
    cases h
    obtain ⟨p, hp⟩ : ∃ x, x = Classical.choose hx := ⟨_, rfl⟩
    rw [← hp] at e ⊢
    obtain ⟨rfl, e1⟩ := e
    exact check_c p e1 (why_all p)
  · cases h
def treeF (f : Nat) (T : List UInt8) : Option Nd := if (tokens T).2.2 = 0 then (sProg (sF f) 0 (stripT (tokens T).1) 0).map (·.1) else none
theorem treeF_parse {f : Nat} {T : List UInt8} {n : Nd} (h : treeF f T = some n) : parseF f T = some (n, 0, 0) := by
  unfold treeF at h
  split at h
  · rename_i h1
    simp only [Option.map_eq_some_iff] at h
    obtain ⟨⟨m, ws, k⟩, h2, rfl⟩ := h
    exact parse_of h1 h2
  · cases h
def caseB (f : Nat) (T : List UInt8) (ok : Int → Int → Bool) : Bool := match treeF f T with
  | some n => decide (n.cnt ≤ 400000) && decide (T.length ≤ 4096) && ok (checkF n).2.1 (checkF n).2.2
  | none => false
def signsL : List (List UInt8) := [[43], [45], [42], [47], [37], [60], [60, 61], [62], [62, 61], [61, 61], [33, 61], [38, 38], [124, 124]]
def typesL : List (List UInt8) := [[105, 110, 116], [102, 108, 111, 97, 116], [98, 111, 111, 108]]
def signT (i x y : Nat) : List UInt8 := [102, 117, 110, 99, 32, 102, 40, 97, 32] ++ typesL.getD x [] ++ [44, 32, 98, 32] ++ typesL.getD y [] ++ [41, 32] ++ typesL.getD (if i < 5 then x else 2) [] ++ [32, 123, 32, 114, 101, 116, 117, 114, 110, 32, 97, 32] ++ signsL.getD i [] ++ [32, 98, 59, 32, 125]
def signOk (i x y : Nat) : Bool := x == y && (if i < 4 || (4 < i && i < 9) then decide (x < 2) else if i == 4 then x == 0 else if i == 11 || i == 12 then x == 2 else true)
def signB (i x y : Nat) : Bool := caseB 60 (signT i x y) fun _ e => ((e == 0) == signOk i x y) && (signOk i x y || e == 122)
theorem case_of {f : Nat} {T : List UInt8} {ok : Int → Int → Bool} (h : caseB f T ok = true) : ∃ (n m : Nd) (a e : Int), qParse f [.str T] = some (.tuple [.agg n.enc, .int .i64 0, .int .i64 0]) ∧ q14c [.agg n.enc] = some (.tuple [.agg m.enc, .int .i64 a, .int .i64 e]) ∧ ok a e = true := by
  unfold caseB at h
  cases ht : treeF f T with
  | none => rw [ht] at h; cases h
  | some n =>
    rw [ht] at h
    simp only [Bool.and_eq_true, decide_eq_true_eq] at h
    exact ⟨n, (checkF n).1, (checkF n).2.1, (checkF n).2.2, by simp only [qParse, treeF_parse ht, Option.map_some], q14c_enc h.1.1, h.2⟩
def qP60 : List D → Option D := qParse 60
theorem qP60_ok (args : List D) (d : D) (h : qP60 args = some d) : PCall Tryz.prog 7 args d := qParse_ok 60 args d h
def tk7 : Tab := Tab.zero.addQ 7 qP60
theorem tk7_q (g : FuncId) (args : List D) : tk7.q g args = if g = 7 then qP60 args else Tab.zero.q g args := rfl
theorem tk7_a : tk7.a = Tab.zero.a := rfl
theorem tk7_c : tk7.c = Tab.zero.c := rfl
theorem tk7_ok : tk7.ok Tryz.prog := Tab.addQ_ok (Tab.zero_ok _) qP60_ok
theorem tk7_e : type_of% (And.intro @tk7_q (And.intro @tk7_a @tk7_c)) := (And.intro @tk7_q (And.intro @tk7_a @tk7_c))
def tk14 : Tab := tk7.addQ 14 q14c
theorem tk14_q (g : FuncId) (args : List D) : tk14.q g args = if g = 14 then q14c args else tk7.q g args := rfl
theorem tk14_a : tk14.a = tk7.a := rfl
theorem tk14_c : tk14.c = tk7.c := rfl
theorem tk14_ok : tk14.ok Tryz.prog := Tab.addQ_ok tk7_ok q14c_ok
theorem tk14_e : type_of% (And.intro (And.intro @tk14_q (And.intro @tk14_a @tk14_c)) @tk7_e) := (And.intro (And.intro @tk14_q (And.intro @tk14_a @tk14_c)) @tk7_e)
def p15c : Plan := ⟨⟨[], [], [], [], [], []⟩, [], [], false⟩
def s15c : Stm :=
 .seq (.ops [⟨.mov (.c (.bool false)), some 0, none, true⟩])
 (.seq (.ops [⟨.qcall (.f 7) [(.c (.str [102, 117, 110, 99, 32, 102, 40, 41, 32, 105, 110, 116, 32, 123, 32, 114, 101, 116, 117, 114, 110, 32, 49, 59, 32, 125, 32, 102, 117, 110, 99, 32, 103, 40, 41, 32, 105, 110, 116, 32, 123, 32, 114, 101, 116, 117, 114, 110, 32, 49, 46, 48, 59, 32, 125]))], some 14, none, false⟩,
 ⟨.mov (.t 14), some 13, none, true⟩,
 ⟨.extract (.t 13) 0, some 15, none, true⟩,
 ⟨.extract (.t 13) 1, some 16, none, true⟩,
 ⟨.extract (.t 13) 2, some 17, none, true⟩,
 ⟨.alloc [(.int .i64 0), (.int .i64 0), (.str []), (.int .i64 0), .nilsl], some 1, none, false⟩,
 ⟨.store 5 (.t 1) (.t 15), none, none, false⟩,
 ⟨.mov (.t 16), some 2, none, true⟩,
 ⟨.mov (.t 17), some 3, none, true⟩])
 (.seq (.ops [⟨.load (some 5) (.t 1), some 19, none, false⟩,
 ⟨.qcall (.f 14) [(.t 19)], some 20, none, false⟩,
 ⟨.mov (.t 20), some 18, none, true⟩,
 ⟨.extract (.t 18) 0, some 21, none, true⟩,
 ⟨.extract (.t 18) 1, some 22, none, true⟩,
 ⟨.extract (.t 18) 2, some 23, none, true⟩,
 ⟨.alloc [(.int .i64 0), (.int .i64 0), (.str []), (.int .i64 0), .nilsl], some 4, none, false⟩,
 ⟨.store 5 (.t 4) (.t 21), none, none, false⟩,
 ⟨.mov (.t 22), some 5, none, true⟩,
 ⟨.mov (.t 23), some 6, none, true⟩])
 (.seq (.ops [⟨.qcall (.f 7) [(.c (.str [102, 117, 110, 99, 32, 102, 40, 41, 32, 105, 110, 116, 32, 123, 32, 114, 101, 116, 117, 114, 110, 32, 49, 59, 32, 125]))], some 25, none, false⟩,
 ⟨.mov (.t 25), some 24, none, true⟩,
 ⟨.extract (.t 24) 0, some 26, none, true⟩,
 ⟨.extract (.t 24) 1, some 27, none, true⟩,
 ⟨.extract (.t 24) 2, some 28, none, true⟩,
 ⟨.alloc [(.int .i64 0), (.int .i64 0), (.str []), (.int .i64 0), .nilsl], some 7, none, false⟩,
 ⟨.store 5 (.t 7) (.t 26), none, none, false⟩,
 ⟨.mov (.t 27), some 8, none, true⟩,
 ⟨.mov (.t 28), some 9, none, true⟩])
 (.seq (.ops [⟨.load (some 5) (.t 7), some 30, none, false⟩,
 ⟨.qcall (.f 14) [(.t 30)], some 31, none, false⟩,
 ⟨.mov (.t 31), some 29, none, true⟩,
 ⟨.extract (.t 29) 0, some 32, none, true⟩,
 ⟨.extract (.t 29) 1, some 33, none, true⟩,
 ⟨.extract (.t 29) 2, some 34, none, true⟩,
 ⟨.alloc [(.int .i64 0), (.int .i64 0), (.str []), (.int .i64 0), .nilsl], some 10, none, false⟩,
 ⟨.store 5 (.t 10) (.t 32), none, none, false⟩,
 ⟨.mov (.t 33), some 11, none, true⟩,
 ⟨.mov (.t 34), some 12, none, true⟩])
 (.seq (.ops [⟨.mov (.t 3), some 35, none, true⟩,
 ⟨.bin .eql (.t 35) (.c (.int .i64 0)), some 36, none, true⟩,
 ⟨.mov (.t 36), some 37, none, true⟩,
 ⟨.mov (.t 6), some 38, (some (37, true)), true⟩,
 ⟨.bin .eql (.t 38) (.c (.int .i64 122)), some 39, (some (37, true)), true⟩,
 ⟨.pick (.t 37) (.t 39) (.c (.bool false)), some 40, none, true⟩,
 ⟨.mov (.t 40), some 41, none, true⟩,
 ⟨.mov (.t 5), some 42, (some (41, true)), true⟩,
 ⟨.bin .eql (.t 42) (.c (.int .i64 1)), some 43, (some (41, true)), true⟩,
 ⟨.pick (.t 41) (.t 43) (.c (.bool false)), some 44, none, true⟩,
 ⟨.mov (.t 44), some 45, none, true⟩,
 ⟨.mov (.t 12), some 46, (some (45, true)), true⟩,
 ⟨.bin .eql (.t 46) (.c (.int .i64 0)), some 47, (some (45, true)), true⟩,
 ⟨.pick (.t 45) (.t 47) (.c (.bool false)), some 48, none, true⟩,
 ⟨.mov (.t 48), some 0, none, true⟩])
 (.ret))))))
theorem st15c : stmOf Tryz.prog 15 p15c = some (s15c, [.tmp 0], 49) := by kernel_rfl
def awkA : List UInt8 := [102, 117, 110, 99, 32, 102, 40, 41, 32, 105, 110, 116, 32, 123, 32, 114, 101, 116, 117, 114, 110, 32, 49, 59, 32, 125, 32, 102, 117, 110, 99, 32, 103, 40, 41, 32, 105, 110, 116, 32, 123, 32, 114, 101, 116, 117, 114, 110, 32, 49, 46, 48, 59, 32, 125]
def awkB : List UInt8 := [102, 117, 110, 99, 32, 102, 40, 41, 32, 105, 110, 116, 32, 123, 32, 114, 101, 116, 117, 114, 110, 32, 49, 59, 32, 125]
theorem awkA_ok : caseB 60 awkA (fun a e => a == 1 && e == 122) = true := by kernel_rfl
theorem awkB_ok : caseB 60 awkB (fun a e => e == 0) = true := by kernel_rfl
theorem awake12_c : PCall Tryz.prog 15 [] (.bool true) := by
  refine PCall.run tk14_ok st15c (by simp) fun E => ?_
  obtain ⟨n1, m1, a1, e1, p1c, c1c, o1⟩ := case_of awkA_ok
  obtain ⟨n2, m2, a2, e2, p2c, c2c, o2⟩ := case_of awkB_ok
  simp only [Bool.and_eq_true, beq_iff_eq] at o1 o2
  obtain ⟨rfl, rfl⟩ := o1
  subst o2
  change qP60 _ = _ at p1c
  change qP60 _ = _ at p2c
  unfold awkA at p1c
  unfold awkB at p2c
  obtain ⟨k1, t1, s1c, j1, l1⟩ := n1
  obtain ⟨k2, t2, s2c, j2, l2⟩ := n2
  obtain ⟨k3, t3, s3c, j3, l3⟩ := m1
  obtain ⟨k4, t4, s4c, j4, l4⟩ := m2
  simp only [enc_mk] at p1c p2c c1c c2c
  simp (maxSteps := 1000000) only [s15c, p1c, p2c, c1c, c2c, tk14_e, zzK, seval]
end
end Go.Proofs.YtpagdhbmbnoddaaGreatDoor.Zz
namespace Go.Proofs.YtpagdhbmbnoddaaGreatDoor.Zz
noncomputable section
theorem signs_all : ((List.range 13).all fun i => (List.range 3).all fun x => (List.range 3).all fun y => signB i x y) = true := by kernel_rfl
theorem sign_of {i x y : Nat} (hi : i < 13) (hx : x < 3) (hy : y < 3) : signB i x y = true := by
  have h := signs_all
  simp only [List.all_eq_true, List.mem_range] at h
  exact h i hi x hx y hy
end
end Go.Proofs.YtpagdhbmbnoddaaGreatDoor.Zz
