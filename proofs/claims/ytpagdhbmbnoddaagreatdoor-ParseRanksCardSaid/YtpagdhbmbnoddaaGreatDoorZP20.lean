/- How expressions, statements and declarations are parsed: the plain answer. -/
import Derived.Test.YtpagdhbmbnoddaaGreatDoorZP0
import Derived.Test.YtpagdhbmbnoddaaGreatDoorZP17
import Derived.KernelRfl
set_option linter.unnecessarySimpa false
namespace Go.Proofs.YtpagdhbmbnoddaaGreatDoor.Zz
set_option linter.unusedVariables false
set_option linter.unusedSimpArgs false
noncomputable section
def Nd.setKids (n : Nd) (l : List Nd) : Nd := match n with
  | .mk k t s m _ => .mk k t s m l
def Nd.kidsOf : Nd → List Nd
  | .mk _ _ _ _ l => l
def Nd.addKid (n x : Nd) : Nd := match n with
  | .mk k t s m l => .mk k t s m (l ++ [x])
def Nd.setT (n : Nd) (t : Int) : Nd := match n with
  | .mk k _ s m l => .mk k t s m l
/-- The parts that call each other. -/
structure PRec where
  expr : Int → PS → PR Nd
  unary : PS → PR Nd
  call : List UInt8 → PS → PR Nd
  block : PS → PR Nd
  stmt : PS → PR Nd
  branch : PS → PR Nd
variable {α β : Type} (l : List Tok) (g : PRec)
def pDeep (body : PS → PR α) (s : PS) : PR α := (pIn l s).bind fun _ s => pOff (body s)
def exprL (least : Int) : Nat → Nd → PS → PR Nd
  | 0, _, _ => .out
  | j + 1, n, s => bif (pNow l s).1 != 5 || decide (rankF (pNow l s).2.1 ≤ least) then .ok n s
    else (g.expr (rankF (pNow l s).2.1) (pStep s)).bind fun r s' => (pNode l (.mk 26 0 (pNow l s).2.1 0 [n, r]) s').bind fun n s => exprL least j n s
def exprG (least : Int) : PS → PR Nd := pDeep l fun s => (g.unary s).bind fun n s => exprL l g least (l.length + 1) n s
def pUn (x : List UInt8) : PS → PR Nd := pDeep l fun s => (g.unary s).bind fun n s => pNode l (.mk 25 0 x 0 [n]) s
def pConv (t : Int) (s : PS) : PR Nd := (pMust l [40] s).bind fun _ s => (g.expr 0 s).bind fun n s => (pNode l (.mk 27 t [] 0 [n]) s).bind fun n s => (pMust l [41] s).bind fun _ s => .ok n s
def unaryG (s : PS) : PR Nd :=
  (pTake l [45] s).bind fun b s => bif b then pUn l g [45] s else
  (pTake l [33] s).bind fun b s => bif b then pUn l g [33] s else
  (pPlain l s).bind fun x s => bif x.2 then .ok x.1 s else
  (pTake l wInt s).bind fun b s => bif b then pConv l g 1 s else
  (pTake l wFloat s).bind fun b s => bif b then pConv l g 2 s else
  (pTake l [40] s).bind fun b s => bif b then (g.expr 0 s).bind fun n s => (pMust l [41] s).bind fun _ s => .ok n s else
  (pName l s).bind fun x s => bif pIs l [40] s then g.call x s else pNode l (.mk 23 0 x 0 []) s
def callL : Nat → Nd → PS → PR Nd
  | 0, _, _ => .out
  | j + 1, n, s => (pTake l [41] s).bind fun b s => bif b then .ok n s else
    (bif decide (n.kidsOf.length > 0) then pMust l [44] s else .ok () s).bind fun _ s =>
    bif decide (n.kidsOf.length ≥ 6) then pFail l 3 s else (g.expr 0 s).bind fun x s => callL j (n.addKid x) s
def callG (x : List UInt8) : PS → PR Nd := pDeep l fun s => (pNode l (.mk 24 0 x 0 []) s).bind fun n s => (pMust l [40] s).bind fun _ s => callL l g (l.length + 1) n s
def blockL : Nat → Nd → PS → PR Nd
  | 0, _, _ => .out
  | j + 1, n, s => (pTake l [125] s).bind fun b s => bif b then .ok n s else
    bif decide (n.kidsOf.length ≥ 32) then pFail l 3 s else (g.stmt s).bind fun x s => blockL j (n.addKid x) s
def blockG : PS → PR Nd := pDeep l fun s => (pMust l [123] s).bind fun _ s => (pNode l (.mk 6 0 [] 0 []) s).bind fun n s => blockL l g (l.length + 1) n s
def pSimple (k : Int) (x : List UInt8) (s : PS) : PR Nd := (pNode l (.mk k 0 x 0 []) s).bind fun n s => (g.expr 0 s).bind fun e s => (pMust l [59] s).bind fun _ s => .ok (n.setKids [e]) s
def wIf : List UInt8 := [105, 102]
def wFor : List UInt8 := [102, 111, 114]
def wReturn : List UInt8 := [114, 101, 116, 117, 114, 110]
def wAssert : List UInt8 := [97, 115, 115, 101, 114, 116]
def wSkip : List UInt8 := [115, 107, 105, 112]
def wElse : List UInt8 := [101, 108, 115, 101]
def stmtG (s : PS) : PR Nd :=
  (pTake l wIf s).bind fun b s => bif b then g.branch s else
  (pTake l wFor s).bind fun b s => bif b then (pNode l (.mk 10 0 [] 0 []) s).bind fun n s => (g.expr 0 s).bind fun e s => (g.block s).bind fun b s => .ok (n.setKids [e, b]) s else
  (pTake l wReturn s).bind fun b s => bif b then pSimple l g 11 [] s else
  (pTake l wAssert s).bind fun b s => bif b then pSimple l g 12 [] s else
  (pTake l wSkip s).bind fun b s => bif b then (pMust l [59] s).bind fun _ s => pNode l (.mk 14 0 [] 0 []) s else
  (pName l s).bind fun x s =>
  (pTake l [58, 61] s).bind fun b s => bif b then pSimple l g 7 x s else
  (pTake l [61] s).bind fun b s => bif b then pSimple l g 8 x s else
  (pNode l (.mk 13 0 [] 0 []) s).bind fun n s => (g.call x s).bind fun c s => (pMust l [59] s).bind fun _ s => .ok (n.setKids [c]) s
def branchG : PS → PR Nd := pDeep l fun s => (pNode l (.mk 9 0 [] 0 []) s).bind fun n s => (g.expr 0 s).bind fun e s => (g.block s).bind fun b s =>
  (pTake l wElse s).bind fun t s => bif !t then .ok (n.setKids [e, b]) s else
  (pTake l wIf s).bind fun t s => bif t then (pNode l (.mk 6 0 [] 0 []) s).bind fun m s => (g.branch s).bind fun x s => .ok ((n.setKids [e, b]).addKid (m.setKids [x])) s
  else (g.block s).bind fun b2 s => .ok ((n.setKids [e, b]).addKid b2) s
/-- With so many calls within each other. -/
def psF : Nat → PRec
  | 0 => ⟨fun _ _ => .out, fun _ => .out, fun _ _ => .out, fun _ => .out, fun _ => .out, fun _ => .out⟩
  | f + 1 => ⟨exprG l (psF f), unaryG l (psF f), callG l (psF f), blockG l (psF f), stmtG l (psF f), branchG l (psF f)⟩
def wVar : List UInt8 := [118, 97, 114]
def wTest : List UInt8 := [116, 101, 115, 116]
def wFunc : List UInt8 := [102, 117, 110, 99]
def paramL : Nat → Nd → PS → PR Nd
  | 0, _, _ => .out
  | j + 1, n, s => (pTake l [41] s).bind fun b s => bif b then .ok n s else
    (bif decide (n.kidsOf.length > 0) then pMust l [44] s else .ok () s).bind fun _ s =>
    bif decide (n.kidsOf.length ≥ 6) then pFail l 3 s else
    (pName l s).bind fun x s => (pTyp l s).bind fun t s => (pNode l (.mk 5 t x 0 []) s).bind fun m s => paramL j (n.addKid m) s
def declG (s : PS) : PR Nd :=
  (pTake l wVar s).bind fun b s => bif b then (pName l s).bind fun x s => (pTyp l s).bind fun t s => (pNode l (.mk 2 t x 0 []) s).bind fun n s => (pMust l [61] s).bind fun _ s => (pLit l s).bind fun v s => (pMust l [59] s).bind fun _ s => .ok (n.setKids [v]) s else
  (pTake l wTest s).bind fun b s => bif b then (pName l s).bind fun x s => (pNode l (.mk 4 0 x 0 []) s).bind fun n s => (g.block s).bind fun b s => .ok (n.setKids [b]) s else
  (pMust l wFunc s).bind fun _ s => (pName l s).bind fun x s => (pNode l (.mk 3 0 x 0 []) s).bind fun n s => (pMust l [40] s).bind fun _ s =>
  (paramL l (l.length + 1) n s).bind fun n s => (pTyp l s).bind fun t s => (g.block s).bind fun b s => .ok ((n.setT t).addKid b) s
def progL : Nat → Int → Int → Nd → PS → PR Nd
  | 0, _, _, _, _ => .out
  | j + 1, fs, gs, n, s => bif (pNow l s).1 != 0 then
      (let gs' := bif pIs l wVar s then gs + 1 else gs
       let fs' := bif pIs l wVar s then fs else fs + 1
       bif decide (gs' > 16) || decide (fs' > 32) then pFail l 3 s else (declG l g s).bind fun d s => progL j fs' gs' (n.addKid d) s)
    else .ok n s
def progG (s : PS) : PR Nd := (pNode l (.mk 1 0 [] 0 []) s).bind fun n s => progL l g (l.length + 1) 0 0 n s
/-- With so many calls within each other, a text's program. -/
def parseF (f : Nat) (x : List UInt8) : Option (Nd × Int × Int) :=
  if (tokens x).2.2 = 0 then
    match progG (tokens x).1 (psF (tokens x).1 f) ⟨0, 0, 0⟩ with
    | .ok n _ => some (n, 0, 0)
    | .fail a e => some (.mk 0 0 [] 0 [], a, e)
    | .out => none
  else some (.mk 0 0 [] 0 [], (tokens x).2.1, (tokens x).2.2)
end
/-! ### The depth stays -/
section
variable {α β : Type}
def keeps (r : PR α) (d : Int) : Prop := ∀ x s, r = .ok x s → s.deep = d
theorem keeps_ok {x : α} {s : PS} {d : Int} (h : s.deep = d) : keeps (.ok x s) d := fun y s' e => by cases e; exact h
theorem keeps_fail {a e d : Int} : keeps (.fail a e : PR α) d := fun y s' e => by cases e
theorem keeps_out {d : Int} : keeps (.out : PR α) d := fun y s' e => by cases e
theorem keeps_bind {r : PR α} {k : α → PS → PR β} {d d' : Int} (h : keeps r d) (hk : ∀ x s, s.deep = d → keeps (k x s) d') : keeps (r.bind k) d' := by
  cases r with
  | ok x s => exact hk x s (h x s rfl)
  | fail => exact keeps_fail
  | out => exact keeps_out
theorem keeps_cond {c : Bool} {r r' : PR α} {d : Int} (h : keeps r d) (h' : keeps r' d) : keeps (bif c then r else r') d := by cases c <;> assumption
variable {l : List Tok} {g : PRec}
theorem keeps_pFail {e : Int} {s : PS} {d : Int} : keeps (pFail l e s : PR α) d := keeps_fail
theorem keeps_pTake {x : List UInt8} {s : PS} : keeps (pTake l x s) s.deep := keeps_cond (keeps_ok rfl) (keeps_ok rfl)
theorem keeps_pMust {x : List UInt8} {s : PS} : keeps (pMust l x s) s.deep := keeps_cond (keeps_ok rfl) keeps_fail
theorem keeps_pName {s : PS} : keeps (pName l s) s.deep := keeps_cond (keeps_ok rfl) keeps_fail
theorem keeps_pTyp {s : PS} : keeps (pTyp l s) s.deep := keeps_cond (keeps_ok rfl) (keeps_cond (keeps_ok rfl) (keeps_cond (keeps_ok rfl) keeps_fail))
theorem keeps_pNode {n : Nd} {s : PS} : keeps (pNode l n s) s.deep := by
  unfold pNode
  split
  · exact keeps_fail
  · exact keeps_ok rfl
theorem keeps_pPlain {s : PS} : keeps (pPlain l s) s.deep := by
  have hgo : ∀ n : Nd, keeps ((pNode l n (pStep s)).bind fun n s => .ok (n, true) s) s.deep := fun n => keeps_bind keeps_pNode fun x s' e => keeps_ok e
  unfold pPlain
  exact keeps_cond (hgo _) (keeps_cond (hgo _) (keeps_cond (hgo _) (keeps_cond (hgo _) (keeps_ok rfl))))
theorem keeps_pLit {s : PS} : keeps (pLit l s) s.deep := by
  unfold pLit
  refine keeps_bind keeps_pTake fun mi s1p e1 => keeps_bind (d := s1p.deep) keeps_pPlain fun x s2p e2 => keeps_cond keeps_pFail (keeps_ok ?_)
  rw [e2, e1]
theorem keeps_pDeep {body : PS → PR α} {s : PS} (h : ∀ s', keeps (body s') s'.deep) : keeps (pDeep l body s) s.deep := by
  unfold pDeep pIn
  split
  · exact keeps_fail
  · refine keeps_bind (d := s.deep + 1) (keeps_ok rfl) fun _ s1p e1 => keeps_bind (h s1p) fun x s' e => keeps_ok ?_
    rw [e, e1]; simp only; omega
/-- All parts keep the depth. -/
structure PKeep (g : PRec) : Prop where
  expr : ∀ k s, keeps (g.expr k s) s.deep
  unary : ∀ s, keeps (g.unary s) s.deep
  call : ∀ x s, keeps (g.call x s) s.deep
  block : ∀ s, keeps (g.block s) s.deep
  stmt : ∀ s, keeps (g.stmt s) s.deep
  branch : ∀ s, keeps (g.branch s) s.deep
theorem keeps_of {r : PR α} {s : PS} {d : Int} (e : s.deep = d) (h : keeps r s.deep) : keeps r d := e ▸ h
variable (hg : PKeep g)
include hg
theorem keeps_exprL {k : Int} : ∀ (j : Nat) (n : Nd) (s : PS) (d : Int), s.deep = d → keeps (exprL l g k j n s) d
  | 0, n, s, d, e => keeps_out
  | j + 1, n, s, d, e => by
    unfold exprL
    refine keeps_cond (keeps_ok e) (keeps_bind (d := d) (keeps_of (s := pStep s) e (hg.expr _ _)) fun r s1p e1 => keeps_bind (d := d) (keeps_of e1 keeps_pNode) fun n s2p e2 => keeps_exprL j n s2p d e2)
theorem keeps_callL : ∀ (j : Nat) (n : Nd) (s : PS) (d : Int), s.deep = d → keeps (callL l g j n s) d
  | 0, n, s, d, e => keeps_out
  | j + 1, n, s, d, e => by
    unfold callL
    refine keeps_bind (d := d) (keeps_of e keeps_pTake) fun b s1p e1 => keeps_cond (keeps_ok e1) (keeps_bind (d := d) (keeps_cond (keeps_of e1 keeps_pMust) (keeps_ok e1)) fun _ s2p e2 => keeps_cond keeps_pFail (keeps_bind (d := d) (keeps_of e2 (hg.expr _ _)) fun x s3p e3 => keeps_callL j _ s3p d e3))
theorem keeps_blockL : ∀ (j : Nat) (n : Nd) (s : PS) (d : Int), s.deep = d → keeps (blockL l g j n s) d
  | 0, n, s, d, e => keeps_out
  | j + 1, n, s, d, e => by
    unfold blockL
    refine keeps_bind (d := d) (keeps_of e keeps_pTake) fun b s1p e1 => keeps_cond (keeps_ok e1) (keeps_cond keeps_pFail (keeps_bind (d := d) (keeps_of e1 (hg.stmt _)) fun x s3p e3 => keeps_blockL j _ s3p d e3))
theorem keeps_pSimple {k : Int} {x : List UInt8} {s : PS} : keeps (pSimple l g k x s) s.deep := by
  unfold pSimple
  generalize hd : s.deep = d
  repeat' first
    | exact keeps_fail
    | exact keeps_out
    | exact keeps_ok (by first | rfl | assumption)
    | refine keeps_cond ?_ ?_
    | refine keeps_bind (d := d) (keeps_of (by first | rfl | assumption) (by first | exact keeps_pTake | exact keeps_pMust | exact keeps_pName | exact keeps_pTyp | exact keeps_pNode | exact keeps_pPlain | exact keeps_pLit | exact hg.expr _ _ | exact hg.unary _ | exact hg.call _ _ | exact hg.block _ | exact hg.stmt _ | exact hg.branch _)) fun _ _ _ => ?_
    | exact keeps_of (by first | rfl | assumption) (by first | exact keeps_pTake | exact keeps_pMust | exact keeps_pName | exact keeps_pTyp | exact keeps_pNode | exact keeps_pPlain | exact keeps_pLit | exact hg.expr _ _ | exact hg.unary _ | exact hg.call _ _ | exact hg.block _ | exact hg.stmt _ | exact hg.branch _)
    | (refine keeps_bind (d := d) (keeps_cond (keeps_of (by first | rfl | assumption) keeps_pMust) (keeps_ok (by first | rfl | assumption))) fun _ _ _ => ?_)
theorem keeps_pConv {t : Int} {s : PS} : keeps (pConv l g t s) s.deep := by
  unfold pConv
  generalize hd : s.deep = d
  repeat' first
    | exact keeps_fail
    | exact keeps_out
    | exact keeps_ok (by first | rfl | assumption)
    | refine keeps_cond ?_ ?_
    | refine keeps_bind (d := d) (keeps_of (by first | rfl | assumption) (by first | exact keeps_pTake | exact keeps_pMust | exact keeps_pName | exact keeps_pTyp | exact keeps_pNode | exact keeps_pPlain | exact keeps_pLit | exact hg.expr _ _ | exact hg.unary _ | exact hg.call _ _ | exact hg.block _ | exact hg.stmt _ | exact hg.branch _)) fun _ _ _ => ?_
    | exact keeps_of (by first | rfl | assumption) (by first | exact keeps_pTake | exact keeps_pMust | exact keeps_pName | exact keeps_pTyp | exact keeps_pNode | exact keeps_pPlain | exact keeps_pLit | exact hg.expr _ _ | exact hg.unary _ | exact hg.call _ _ | exact hg.block _ | exact hg.stmt _ | exact hg.branch _)
    | (refine keeps_bind (d := d) (keeps_cond (keeps_of (by first | rfl | assumption) keeps_pMust) (keeps_ok (by first | rfl | assumption))) fun _ _ _ => ?_)
theorem keeps_pUn {x : List UInt8} {s : PS} : keeps (pUn l g x s) s.deep := keeps_pDeep fun s' => keeps_bind (hg.unary s') fun n s2p e2 => keeps_of e2 keeps_pNode
theorem keeps_step : PKeep ⟨exprG l g, unaryG l g, callG l g, blockG l g, stmtG l g, branchG l g⟩ where
  expr k s := keeps_pDeep fun s' => keeps_bind (hg.unary s') fun n s2p e2 => keeps_exprL hg _ _ _ _ e2
  unary s := by
    show keeps (unaryG l g s) s.deep
    unfold unaryG
    refine keeps_bind keeps_pTake fun b s1p e1 => keeps_cond (keeps_of e1 (keeps_pUn hg)) (keeps_bind (keeps_of e1 keeps_pTake) fun b s2p e2 => keeps_cond (keeps_of e2 (keeps_pUn hg)) (keeps_bind (keeps_of e2 keeps_pPlain) fun x s3p e3 => keeps_cond (keeps_ok e3)
      (keeps_bind (keeps_of e3 keeps_pTake) fun b s4p e4 => keeps_cond (keeps_of e4 (keeps_pConv hg)) (keeps_bind (keeps_of e4 keeps_pTake) fun b s5p e5 => keeps_cond (keeps_of e5 (keeps_pConv hg)) (keeps_bind (keeps_of e5 keeps_pTake) fun b s6p e6 => keeps_cond
        (keeps_bind (keeps_of e6 (hg.expr _ _)) fun n s7p e7 => keeps_bind (keeps_of e7 keeps_pMust) fun _ s8p e8 => keeps_ok e8)
        (keeps_bind (keeps_of e6 keeps_pName) fun x s7p e7 => keeps_cond (keeps_of e7 (hg.call _ _)) (keeps_of e7 keeps_pNode)))))))
  call x s := keeps_pDeep fun s' => keeps_bind keeps_pNode fun n s2p e2 => keeps_bind (keeps_of e2 keeps_pMust) fun _ s3p e3 => keeps_callL hg _ _ _ _ e3
  block s := keeps_pDeep fun s' => keeps_bind keeps_pMust fun _ s2p e2 => keeps_bind (keeps_of e2 keeps_pNode) fun _ s3p e3 => keeps_blockL hg _ _ _ _ e3
  stmt s := by
    show keeps (stmtG l g s) s.deep
    unfold stmtG
    refine keeps_bind keeps_pTake fun b s1p e1 => keeps_cond (keeps_of e1 (hg.branch _)) (keeps_bind (keeps_of e1 keeps_pTake) fun b s2p e2 => keeps_cond
      (keeps_bind (keeps_of e2 keeps_pNode) fun n s3p e3 => keeps_bind (keeps_of e3 (hg.expr _ _)) fun e s4p e4 => keeps_bind (keeps_of e4 (hg.block _)) fun b s5p e5 => keeps_ok e5)
      (keeps_bind (keeps_of e2 keeps_pTake) fun b s3p e3 => keeps_cond (keeps_of e3 (keeps_pSimple hg)) (keeps_bind (keeps_of e3 keeps_pTake) fun b s4p e4 => keeps_cond (keeps_of e4 (keeps_pSimple hg))
        (keeps_bind (keeps_of e4 keeps_pTake) fun b s5p e5 => keeps_cond (keeps_bind (keeps_of e5 keeps_pMust) fun _ s6p e6 => keeps_of e6 keeps_pNode)
          (keeps_bind (keeps_of e5 keeps_pName) fun x s6p e6 => keeps_bind (keeps_of e6 keeps_pTake) fun b s7p e7 => keeps_cond (keeps_of e7 (keeps_pSimple hg)) (keeps_bind (keeps_of e7 keeps_pTake) fun b s8p e8 => keeps_cond (keeps_of e8 (keeps_pSimple hg))
            (keeps_bind (keeps_of e8 keeps_pNode) fun n s9p e9 => keeps_bind (keeps_of e9 (hg.call _ _)) fun c t1 f1 => keeps_bind (keeps_of f1 keeps_pMust) fun _ t2 f2 => keeps_ok f2)))))))
  branch s := keeps_pDeep fun s' => keeps_bind keeps_pNode fun n s2p e2 => keeps_bind (keeps_of e2 (hg.expr _ _)) fun e s3p e3 => keeps_bind (keeps_of e3 (hg.block _)) fun b s4p e4 => keeps_bind (keeps_of e4 keeps_pTake) fun t s5p e5 => keeps_cond (keeps_ok e5)
    (keeps_bind (keeps_of e5 keeps_pTake) fun t s6p e6 => keeps_cond (keeps_bind (keeps_of e6 keeps_pNode) fun m s7p e7 => keeps_bind (keeps_of e7 (hg.branch _)) fun x s8p e8 => keeps_ok e8) (keeps_bind (keeps_of e6 (hg.block _)) fun b2 s7p e7 => keeps_ok e7))
omit hg
theorem keeps_psF (l : List Tok) : ∀ f, PKeep (psF l f)
  | 0 => ⟨fun _ _ => keeps_out, fun _ => keeps_out, fun _ _ => keeps_out, fun _ => keeps_out, fun _ => keeps_out, fun _ => keeps_out⟩
  | f + 1 => keeps_step (keeps_psF l f)
end
end Go.Proofs.YtpagdhbmbnoddaaGreatDoor.Zz
/- Parsing, told of the words alone that are ahead: where it goes well, the parser does the same. -/
namespace Go.Proofs.YtpagdhbmbnoddaaGreatDoor.Zz
set_option linter.unusedVariables false
set_option linter.unusedSimpArgs false
noncomputable section
abbrev Wd := Int × List UInt8
/-- A part that went well: what it answers, the words ahead, how many nodes there are. -/
abbrev SR (α : Type) := Option (α × List Wd × Int)
section
variable {α β : Type}
def stripT (l : List Tok) : List Wd := l.map fun t => (t.1, t.2.1)
/-- The words ahead. -/
def vw (l : List Tok) (s : PS) : List Wd := stripT (l.drop s.pos.toNat)
theorem vw_len (l : List Tok) (s : PS) : (vw l s).length ≤ l.length := by simp [vw, stripT]
theorem vw_nil {l : List Tok} {s : PS} (h : vw l s = []) : pNow l s = (0, [], 0) := by
  simp only [vw, stripT, List.map_eq_nil_iff, List.drop_eq_nil_iff] at h
  simp [pNow, h]
theorem vw_cons {l : List Tok} {s : PS} {k : Int} {w : List UInt8} {r : List Wd} (hp : 0 ≤ s.pos) (h : vw l s = (k, w) :: r) : (pNow l s).1 = k ∧ (pNow l s).2.1 = w ∧ vw l (pStep s) = r := by
  simp only [vw, stripT] at h
  cases e : l.drop s.pos.toNat with
  | nil => rw [e] at h; cases h
  | cons t q =>
    rw [e] at h
    simp only [List.map_cons, List.cons.injEq, Prod.mk.injEq] at h
    have e1 : l.getD s.pos.toNat (0, [], 0) = t := by
      have := congrArg (fun l : List Tok => l[0]?) e
      simp only [List.getElem?_drop, Nat.add_zero, List.getElem?_cons_zero] at this
      rw [List.getD_eq_getElem?_getD, this]; rfl
    have e2 : l.drop (s.pos.toNat + 1) = q := by
      rw [← List.drop_drop, e]; rfl
    refine ⟨by rw [pNow, e1]; exact h.1.1, by rw [pNow, e1]; exact h.1.2, ?_⟩
    have e3 : (s.pos + 1).toNat = s.pos.toNat + 1 := by omega
    simp only [vw, pStep, e3, e2, stripT]
    exact h.2
/-- The parser does what the words say. -/
def Rel (l : List Tok) (r : PR α) (q : SR α) (d : Int) : Prop := ∀ x ws m, q = some (x, ws, m) → ∃ s' : PS, r = .ok x s' ∧ vw l s' = ws ∧ s'.nods = m ∧ s'.deep = d ∧ 0 ≤ s'.pos
theorem Rel.none {l : List Tok} {r : PR α} {d : Int} : Rel l r none d := fun _ _ _ e => by cases e
theorem Rel.ok {l : List Tok} {x : α} {s : PS} {d : Int} (h1 : s.deep = d) (h2 : 0 ≤ s.pos) : Rel l (.ok x s) (some (x, vw l s, s.nods)) d := fun y ws m e => by
  cases e; exact ⟨s, rfl, rfl, rfl, h1, h2⟩
theorem Rel.ok' {l : List Tok} {x : α} {s : PS} {d : Int} {ws : List Wd} (h1 : s.deep = d) (h2 : 0 ≤ s.pos) (h3 : vw l s = ws) : Rel l (.ok x s) (some (x, ws, s.nods)) d := fun y ws m e => by
  cases e; exact ⟨s, rfl, h3, rfl, h1, h2⟩
theorem Rel.bind {l : List Tok} {r : PR α} {q : SR α} {k : α → PS → PR β} {kk : α × List Wd × Int → SR β} {d d' : Int} (h : Rel l r q d) (hk : ∀ x s', s'.deep = d → 0 ≤ s'.pos → Rel l (k x s') (kk (x, vw l s', s'.nods)) d') : Rel l (r.bind k) (q.bind kk) d' := fun z ws m e => by
  cases hq : q with
  | none => rw [hq] at e; cases e
  | some y =>
    obtain ⟨x, w1, m1⟩ := y
    obtain ⟨s1p, rfl, rfl, rfl, a, b⟩ := h x w1 m1 hq
    rw [hq] at e
    exact hk x s1p a b z ws m e
theorem Rel.cond {l : List Tok} {c : Bool} {r r' : PR α} {q q' : SR α} {d : Int} (h : Rel l r q d) (h' : Rel l r' q' d) : Rel l (bif c then r else r') (bif c then q else q') d := by cases c <;> assumption
/-! ### The small parts -/
def sIs (x : List UInt8) : List Wd → Bool
  | [] => false
  | (k, w) :: _ => w == x && (k == 5 || k == 4)
theorem sIs_ok {l : List Tok} {s : PS} {x : List UInt8} (hp : 0 ≤ s.pos) : pIs l x s = sIs x (vw l s) := by
  cases e : vw l s with
  | nil => simp [pIs, vw_nil e, sIs]
  | cons t r =>
    obtain ⟨k, w⟩ := t
    obtain ⟨a, b, _⟩ := vw_cons hp e
    simp [pIs, a, b, sIs]
theorem vw_step {l : List Tok} {s : PS} (hp : 0 ≤ s.pos) : vw l (pStep s) = (vw l s).tail := by
  cases e : vw l s with
  | nil =>
    have e3 : (s.pos + 1).toNat = s.pos.toNat + 1 := by omega
    simp only [vw, stripT, List.map_eq_nil_iff, List.drop_eq_nil_iff] at e
    simp only [vw, stripT, pStep, e3, List.tail_nil, List.map_eq_nil_iff, List.drop_eq_nil_iff]
    omega
  | cons t r =>
    obtain ⟨k, w⟩ := t
    exact (vw_cons hp e).2.2
def sTake (x : List UInt8) (ws : List Wd) (m : Int) : SR Bool := bif sIs x ws then some (true, ws.tail, m) else some (false, ws, m)
theorem sTake_ok {l : List Tok} {s : PS} {x : List UInt8} {d : Int} (hp : 0 ≤ s.pos) (hd : s.deep = d) : Rel l (pTake l x s) (sTake x (vw l s) s.nods) d := by
  unfold pTake sTake
  rw [sIs_ok hp]
  exact Rel.cond (Rel.ok' (s := pStep s) hd (by simp only [pStep]; omega) (vw_step hp)) (Rel.ok hd hp)
def sMust (x : List UInt8) (ws : List Wd) (m : Int) : SR Unit := bif sIs x ws then some ((), ws.tail, m) else none
theorem sMust_ok {l : List Tok} {s : PS} {x : List UInt8} {d : Int} (hp : 0 ≤ s.pos) (hd : s.deep = d) : Rel l (pMust l x s) (sMust x (vw l s) s.nods) d := by
  unfold pMust sMust
  rw [sIs_ok hp]
  exact Rel.cond (Rel.ok' (s := pStep s) hd (by simp only [pStep]; omega) (vw_step hp)) Rel.none
def sKind : List Wd → Int
  | [] => 0
  | t :: _ => t.1
def sWord : List Wd → List UInt8
  | [] => []
  | t :: _ => t.2
theorem sKind_ok {l : List Tok} {s : PS} (hp : 0 ≤ s.pos) : (pNow l s).1 = sKind (vw l s) := by
  cases e : vw l s with
  | nil => rw [vw_nil e]; rfl
  | cons t r => obtain ⟨k, w⟩ := t; exact (vw_cons hp e).1
theorem sWord_ok {l : List Tok} {s : PS} (hp : 0 ≤ s.pos) : (pNow l s).2.1 = sWord (vw l s) := by
  cases e : vw l s with
  | nil => rw [vw_nil e]; rfl
  | cons t r => obtain ⟨k, w⟩ := t; exact (vw_cons hp e).2.1
def sName (ws : List Wd) (m : Int) : SR (List UInt8) := bif sKind ws == 1 then some (sWord ws, ws.tail, m) else none
theorem sName_ok {l : List Tok} {s : PS} {d : Int} (hp : 0 ≤ s.pos) (hd : s.deep = d) : Rel l (pName l s) (sName (vw l s) s.nods) d := by
  unfold pName sName
  rw [sKind_ok hp, sWord_ok hp]
  exact Rel.cond (Rel.ok' (s := pStep s) hd (by simp only [pStep]; omega) (vw_step hp)) Rel.none
def sTyp (ws : List Wd) (m : Int) : SR Int := bif sIs wInt ws then some (1, ws.tail, m) else bif sIs wFloat ws then some (2, ws.tail, m) else bif sIs wBool ws then some (3, ws.tail, m) else none
theorem sTyp_ok {l : List Tok} {s : PS} {d : Int} (hp : 0 ≤ s.pos) (hd : s.deep = d) : Rel l (pTyp l s) (sTyp (vw l s) s.nods) d := by
  have h : ∀ x : Int, Rel l (.ok x (pStep s)) (some (x, (vw l s).tail, s.nods)) d := fun x => Rel.ok' (s := pStep s) hd (by simp only [pStep]; omega) (vw_step hp)
  unfold pTyp sTyp
  rw [sIs_ok hp, sIs_ok hp, sIs_ok hp]
  exact Rel.cond (h _) (Rel.cond (h _) (Rel.cond (h _) Rel.none))
def sNode (n : Nd) (ws : List Wd) (m : Int) : SR Nd := if m + 1 > 2000 then none else some (n, ws, m + 1)
theorem sNode_ok {l : List Tok} {s : PS} {n : Nd} {d : Int} (hp : 0 ≤ s.pos) (hd : s.deep = d) : Rel l (pNode l n s) (sNode n (vw l s) s.nods) d := by
  unfold pNode sNode
  split
  · exact Rel.none
  · exact Rel.ok' (s := { s with nods := s.nods + 1 }) hd hp rfl
def sDeep (body : Int → List Wd → Int → SR α) (d : Int) (ws : List Wd) (m : Int) : SR α := if d + 1 > 40 then none else body (d + 1) ws m
theorem sDeep_ok {l : List Tok} {s : PS} {body : PS → PR α} {sb : Int → List Wd → Int → SR α} {d : Int} (hp : 0 ≤ s.pos) (hd : s.deep = d) (h : ∀ s', s'.deep = d + 1 → 0 ≤ s'.pos → Rel l (body s') (sb (d + 1) (vw l s') s'.nods) (d + 1)) : Rel l (pDeep l body s) (sDeep sb d (vw l s) s.nods) d := by
  unfold pDeep sDeep pIn
  subst hd
  split
  · exact Rel.none
  · intro x ws m e
    obtain ⟨s1p, e1, e2, e3, e4, e5⟩ := h { s with deep := s.deep + 1 } rfl hp x ws m e
    refine ⟨{ s1p with deep := s1p.deep - 1 }, ?_, e2, e3, by simp only; omega, e5⟩
    show pOff (body _) = _
    rw [e1]; rfl
def sLit1 (n : Nd) (ws : List Wd) (m : Int) : SR (Nd × Bool) := (sNode n ws.tail m).bind fun y => some ((y.1, true), y.2.1, y.2.2)
def sPlain (ws : List Wd) (m : Int) : SR (Nd × Bool) :=
  bif sKind ws == 2 then sLit1 (.mk 20 0 [] (valF (sWord ws) : Nat) []) ws m
  else bif sKind ws == 3 then sLit1 (floatN (sWord ws)) ws m
  else bif sIs wTrue ws then sLit1 (.mk 22 0 [] 1 []) ws m
  else bif sIs wFalse ws then sLit1 (.mk 22 0 [] 0 []) ws m
  else some ((.mk 0 0 [] 0 [], false), ws, m)
theorem sPlain_ok {l : List Tok} {s : PS} {d : Int} (hp : 0 ≤ s.pos) (hd : s.deep = d) : Rel l (pPlain l s) (sPlain (vw l s) s.nods) d := by
  have h : ∀ n : Nd, Rel l ((pNode l n (pStep s)).bind fun n s => .ok (n, true) s) (sLit1 n (vw l s) s.nods) d := fun n => by
    unfold sLit1
    have h1 := sNode_ok (l := l) (s := pStep s) (n := n) (d := d) (by simp only [pStep]; omega) hd
    rw [vw_step hp] at h1
    exact Rel.bind h1 fun x s' a b => Rel.ok a b
  unfold pPlain sPlain
  simp only [sIs_ok hp, sKind_ok hp, sWord_ok hp]
  exact Rel.cond (h _) (Rel.cond (h _) (Rel.cond (h _) (Rel.cond (h _) (Rel.ok hd hp))))
end
/-! ### The parts that call each other -/
structure SRec where
  expr : Int → Int → List Wd → Int → SR Nd
  unary : Int → List Wd → Int → SR Nd
  call : List UInt8 → Int → List Wd → Int → SR Nd
  block : Int → List Wd → Int → SR Nd
  stmt : Int → List Wd → Int → SR Nd
  branch : Int → List Wd → Int → SR Nd
section
variable (g : SRec)
def sExprL (least d : Int) : Nat → Nd → List Wd → Int → SR Nd
  | 0, _, _, _ => none
  | j + 1, n, ws, m => bif sKind ws != 5 || decide (rankF (sWord ws) ≤ least) then some (n, ws, m)
    else (g.expr (rankF (sWord ws)) d ws.tail m).bind fun y => (sNode (.mk 26 0 (sWord ws) 0 [n, y.1]) y.2.1 y.2.2).bind fun z => sExprL least d j z.1 z.2.1 z.2.2
def sExpr (least : Int) : Int → List Wd → Int → SR Nd := sDeep fun d ws m => (g.unary d ws m).bind fun y => sExprL g least d (y.2.1.length + 1) y.1 y.2.1 y.2.2
def sUn (x : List UInt8) : Int → List Wd → Int → SR Nd := sDeep fun d ws m => (g.unary d ws m).bind fun y => sNode (.mk 25 0 x 0 [y.1]) y.2.1 y.2.2
def sConv (t : Int) (d : Int) (ws : List Wd) (m : Int) : SR Nd := (sMust [40] ws m).bind fun y => (g.expr 0 d y.2.1 y.2.2).bind fun y => (sNode (.mk 27 t [] 0 [y.1]) y.2.1 y.2.2).bind fun z => (sMust [41] z.2.1 z.2.2).bind fun y => some (z.1, y.2.1, y.2.2)
def sUnary (d : Int) (ws : List Wd) (m : Int) : SR Nd :=
  (sTake [45] ws m).bind fun y => bif y.1 then sUn g [45] d y.2.1 y.2.2 else
  (sTake [33] y.2.1 y.2.2).bind fun y => bif y.1 then sUn g [33] d y.2.1 y.2.2 else
  (sPlain y.2.1 y.2.2).bind fun y => bif y.1.2 then some (y.1.1, y.2.1, y.2.2) else
  (sTake wInt y.2.1 y.2.2).bind fun y => bif y.1 then sConv g 1 d y.2.1 y.2.2 else
  (sTake wFloat y.2.1 y.2.2).bind fun y => bif y.1 then sConv g 2 d y.2.1 y.2.2 else
  (sTake [40] y.2.1 y.2.2).bind fun y => bif y.1 then (g.expr 0 d y.2.1 y.2.2).bind fun z => (sMust [41] z.2.1 z.2.2).bind fun y => some (z.1, y.2.1, y.2.2) else
  (sName y.2.1 y.2.2).bind fun y => bif sIs [40] y.2.1 then g.call y.1 d y.2.1 y.2.2 else sNode (.mk 23 0 y.1 0 []) y.2.1 y.2.2
def sCallL (d : Int) : Nat → Nd → List Wd → Int → SR Nd
  | 0, _, _, _ => none
  | j + 1, n, ws, m => (sTake [41] ws m).bind fun y => bif y.1 then some (n, y.2.1, y.2.2) else
    (bif decide (n.kidsOf.length > 0) then sMust [44] y.2.1 y.2.2 else some ((), y.2.1, y.2.2)).bind fun y =>
    bif decide (n.kidsOf.length ≥ 6) then none else (g.expr 0 d y.2.1 y.2.2).bind fun y => sCallL d j (n.addKid y.1) y.2.1 y.2.2
def sCall (x : List UInt8) : Int → List Wd → Int → SR Nd := sDeep fun d ws m => (sNode (.mk 24 0 x 0 []) ws m).bind fun y => (sMust [40] y.2.1 y.2.2).bind fun z => sCallL g d (z.2.1.length + 1) y.1 z.2.1 z.2.2
def sBlockL (d : Int) : Nat → Nd → List Wd → Int → SR Nd
  | 0, _, _, _ => none
  | j + 1, n, ws, m => (sTake [125] ws m).bind fun y => bif y.1 then some (n, y.2.1, y.2.2) else
    bif decide (n.kidsOf.length ≥ 32) then none else (g.stmt d y.2.1 y.2.2).bind fun y => sBlockL d j (n.addKid y.1) y.2.1 y.2.2
def sBlock : Int → List Wd → Int → SR Nd := sDeep fun d ws m => (sMust [123] ws m).bind fun y => (sNode (.mk 6 0 [] 0 []) y.2.1 y.2.2).bind fun y => sBlockL g d (y.2.1.length + 1) y.1 y.2.1 y.2.2
def sSimple (k : Int) (x : List UInt8) (d : Int) (ws : List Wd) (m : Int) : SR Nd := (sNode (.mk k 0 x 0 []) ws m).bind fun y => (g.expr 0 d y.2.1 y.2.2).bind fun e => (sMust [59] e.2.1 e.2.2).bind fun z => some (y.1.setKids [e.1], z.2.1, z.2.2)
def sStmt (d : Int) (ws : List Wd) (m : Int) : SR Nd :=
  (sTake wIf ws m).bind fun y => bif y.1 then g.branch d y.2.1 y.2.2 else
  (sTake wFor y.2.1 y.2.2).bind fun y => bif y.1 then (sNode (.mk 10 0 [] 0 []) y.2.1 y.2.2).bind fun n => (g.expr 0 d n.2.1 n.2.2).bind fun e => (g.block d e.2.1 e.2.2).bind fun b => some (n.1.setKids [e.1, b.1], b.2.1, b.2.2) else
  (sTake wReturn y.2.1 y.2.2).bind fun y => bif y.1 then sSimple g 11 [] d y.2.1 y.2.2 else
  (sTake wAssert y.2.1 y.2.2).bind fun y => bif y.1 then sSimple g 12 [] d y.2.1 y.2.2 else
  (sTake wSkip y.2.1 y.2.2).bind fun y => bif y.1 then (sMust [59] y.2.1 y.2.2).bind fun y => sNode (.mk 14 0 [] 0 []) y.2.1 y.2.2 else
  (sName y.2.1 y.2.2).bind fun x =>
  (sTake [58, 61] x.2.1 x.2.2).bind fun y => bif y.1 then sSimple g 7 x.1 d y.2.1 y.2.2 else
  (sTake [61] y.2.1 y.2.2).bind fun y => bif y.1 then sSimple g 8 x.1 d y.2.1 y.2.2 else
  (sNode (.mk 13 0 [] 0 []) y.2.1 y.2.2).bind fun n => (g.call x.1 d n.2.1 n.2.2).bind fun c => (sMust [59] c.2.1 c.2.2).bind fun z => some (n.1.setKids [c.1], z.2.1, z.2.2)
def sBranch : Int → List Wd → Int → SR Nd := sDeep fun d ws m => (sNode (.mk 9 0 [] 0 []) ws m).bind fun n => (g.expr 0 d n.2.1 n.2.2).bind fun e => (g.block d e.2.1 e.2.2).bind fun b =>
  (sTake wElse b.2.1 b.2.2).bind fun t => bif !t.1 then some (n.1.setKids [e.1, b.1], t.2.1, t.2.2) else
  (sTake wIf t.2.1 t.2.2).bind fun t => bif t.1 then (sNode (.mk 6 0 [] 0 []) t.2.1 t.2.2).bind fun q => (g.branch d q.2.1 q.2.2).bind fun x => some ((n.1.setKids [e.1, b.1]).addKid (q.1.setKids [x.1]), x.2.1, x.2.2)
  else (g.block d t.2.1 t.2.2).bind fun b2 => some ((n.1.setKids [e.1, b.1]).addKid b2.1, b2.2.1, b2.2.2)
end
def sF : Nat → SRec
  | 0 => ⟨fun _ _ _ _ => none, fun _ _ _ => none, fun _ _ _ _ => none, fun _ _ _ => none, fun _ _ _ => none, fun _ _ _ => none⟩
  | f + 1 => ⟨sExpr (sF f), sUnary (sF f), sCall (sF f), sBlock (sF f), sStmt (sF f), sBranch (sF f)⟩
/-- All parts do. -/
structure RRel (l : List Tok) (p : PRec) (g : SRec) : Prop where
  expr : ∀ k s d, 0 ≤ s.pos → s.deep = d → Rel l (p.expr k s) (g.expr k d (vw l s) s.nods) d
  unary : ∀ s d, 0 ≤ s.pos → s.deep = d → Rel l (p.unary s) (g.unary d (vw l s) s.nods) d
  call : ∀ x s d, 0 ≤ s.pos → s.deep = d → Rel l (p.call x s) (g.call x d (vw l s) s.nods) d
  block : ∀ s d, 0 ≤ s.pos → s.deep = d → Rel l (p.block s) (g.block d (vw l s) s.nods) d
  stmt : ∀ s d, 0 ≤ s.pos → s.deep = d → Rel l (p.stmt s) (g.stmt d (vw l s) s.nods) d
  branch : ∀ s d, 0 ≤ s.pos → s.deep = d → Rel l (p.branch s) (g.branch d (vw l s) s.nods) d
section
variable {l : List Tok} {p : PRec} {g : SRec} (h : RRel l p g)
include h
theorem sExprL_ok {k d : Int} : ∀ (J j : Nat) (n : Nd) (s : PS), J ≤ j → 0 ≤ s.pos → s.deep = d → Rel l (exprL l p k j n s) (sExprL g k d J n (vw l s) s.nods) d
  | 0, _, n, s, _, _, _ => Rel.none
  | J + 1, 0, n, s, hj, _, _ => by omega
  | J + 1, j + 1, n, s, hj, hp, hd => by
    unfold exprL sExprL
    rw [sKind_ok hp, sWord_ok hp]
    refine Rel.cond (Rel.ok hd hp) ?_
    have h1 := h.expr (rankF (sWord (vw l s))) (pStep s) d (by simp only [pStep]; omega) hd
    rw [vw_step hp] at h1
    refine Rel.bind h1 fun x s1p a b => ?_
    exact Rel.bind (sNode_ok b a) fun y s2p a b => sExprL_ok J j y s2p (by omega) b a
theorem sExpr_ok (k : Int) (s : PS) (d : Int) (hp : 0 ≤ s.pos) (hd : s.deep = d) : Rel l (exprG l p k s) (sExpr g k d (vw l s) s.nods) d := by
  unfold exprG sExpr
  refine sDeep_ok hp hd fun s1p a b => ?_
  refine Rel.bind (h.unary s1p (d + 1) b a) fun x s2p a b => ?_
  exact sExprL_ok h _ _ x s2p (Nat.add_le_add_right (vw_len l s2p) 1) b a
theorem sUn_ok (x : List UInt8) (s : PS) (d : Int) (hp : 0 ≤ s.pos) (hd : s.deep = d) : Rel l (pUn l p x s) (sUn g x d (vw l s) s.nods) d := by
  unfold pUn sUn
  refine sDeep_ok hp hd fun s1p a b => ?_
  exact Rel.bind (h.unary s1p (d + 1) b a) fun x s2p a b => sNode_ok b a
theorem sConv_ok (t : Int) (s : PS) (d : Int) (hp : 0 ≤ s.pos) (hd : s.deep = d) : Rel l (pConv l p t s) (sConv g t d (vw l s) s.nods) d := by
  unfold pConv sConv
  refine Rel.bind (sMust_ok hp hd) fun _ s1p a b => ?_
  refine Rel.bind (h.expr 0 s1p d b a) fun x s2p a b => ?_
  refine Rel.bind (sNode_ok b a) fun x s3p a b => ?_
  exact Rel.bind (sMust_ok b a) fun _ s4p a b => Rel.ok a b
theorem sUnary_ok (s : PS) (d : Int) (hp : 0 ≤ s.pos) (hd : s.deep = d) : Rel l (unaryG l p s) (sUnary g d (vw l s) s.nods) d := by
  unfold unaryG sUnary
  refine Rel.bind (sTake_ok hp hd) fun t s1p a b => Rel.cond (sUn_ok h _ s1p d b a) ?_
  refine Rel.bind (sTake_ok b a) fun t s1p a b => Rel.cond (sUn_ok h _ s1p d b a) ?_
  refine Rel.bind (sPlain_ok b a) fun t s1p a b => Rel.cond (Rel.ok a b) ?_
  refine Rel.bind (sTake_ok b a) fun t s1p a b => Rel.cond (sConv_ok h _ s1p d b a) ?_
  refine Rel.bind (sTake_ok b a) fun t s1p a b => Rel.cond (sConv_ok h _ s1p d b a) ?_
  refine Rel.bind (sTake_ok b a) fun t s1p a b => Rel.cond ?_ ?_
  · refine Rel.bind (h.expr 0 s1p d b a) fun x s2p a b => ?_
    exact Rel.bind (sMust_ok b a) fun _ s4p a b => Rel.ok a b
  · refine Rel.bind (sName_ok b a) fun x s2p a b => ?_
    rw [sIs_ok b]
    exact Rel.cond (h.call x s2p d b a) (sNode_ok b a)
theorem sCallL_ok {d : Int} : ∀ (J j : Nat) (n : Nd) (s : PS), J ≤ j → 0 ≤ s.pos → s.deep = d → Rel l (callL l p j n s) (sCallL g d J n (vw l s) s.nods) d
  | 0, _, n, s, _, _, _ => Rel.none
  | J + 1, 0, n, s, hj, _, _ => by omega
  | J + 1, j + 1, n, s, hj, hp, hd => by
    unfold callL sCallL
    refine Rel.bind (sTake_ok hp hd) fun t s1p a b => Rel.cond (Rel.ok a b) ?_
    refine Rel.bind (d := d) (Rel.cond (sMust_ok b a) (Rel.ok a b)) fun _ s2p a b => Rel.cond Rel.none ?_
    exact Rel.bind (h.expr 0 s2p d b a) fun x s3p a b => sCallL_ok J j _ s3p (by omega) b a
theorem sCall_ok (x : List UInt8) (s : PS) (d : Int) (hp : 0 ≤ s.pos) (hd : s.deep = d) : Rel l (callG l p x s) (sCall g x d (vw l s) s.nods) d := by
  unfold callG sCall
  refine sDeep_ok hp hd fun s1p a b => ?_
  refine Rel.bind (sNode_ok b a) fun n s2p a b => ?_
  exact Rel.bind (sMust_ok b a) fun _ s3p a b => sCallL_ok h _ _ n s3p (Nat.add_le_add_right (vw_len l s3p) 1) b a
theorem sBlockL_ok {d : Int} : ∀ (J j : Nat) (n : Nd) (s : PS), J ≤ j → 0 ≤ s.pos → s.deep = d → Rel l (blockL l p j n s) (sBlockL g d J n (vw l s) s.nods) d
  | 0, _, n, s, _, _, _ => Rel.none
  | J + 1, 0, n, s, hj, _, _ => by omega
  | J + 1, j + 1, n, s, hj, hp, hd => by
    unfold blockL sBlockL
    refine Rel.bind (sTake_ok hp hd) fun t s1p a b => Rel.cond (Rel.ok a b) (Rel.cond Rel.none ?_)
    exact Rel.bind (h.stmt s1p d b a) fun x s3p a b => sBlockL_ok J j _ s3p (by omega) b a
theorem sBlock_ok (s : PS) (d : Int) (hp : 0 ≤ s.pos) (hd : s.deep = d) : Rel l (blockG l p s) (sBlock g d (vw l s) s.nods) d := by
  unfold blockG sBlock
  refine sDeep_ok hp hd fun s1p a b => ?_
  refine Rel.bind (sMust_ok b a) fun _ s2p a b => ?_
  exact Rel.bind (sNode_ok b a) fun n s3p a b => sBlockL_ok h _ _ n s3p (Nat.add_le_add_right (vw_len l s3p) 1) b a
theorem sSimple_ok (k : Int) (x : List UInt8) (s : PS) (d : Int) (hp : 0 ≤ s.pos) (hd : s.deep = d) : Rel l (pSimple l p k x s) (sSimple g k x d (vw l s) s.nods) d := by
  unfold pSimple sSimple
  refine Rel.bind (sNode_ok hp hd) fun n s1p a b => ?_
  refine Rel.bind (h.expr 0 s1p d b a) fun e s2p a b => ?_
  exact Rel.bind (sMust_ok b a) fun _ s4p a b => Rel.ok a b
theorem sStmt_ok (s : PS) (d : Int) (hp : 0 ≤ s.pos) (hd : s.deep = d) : Rel l (stmtG l p s) (sStmt g d (vw l s) s.nods) d := by
  unfold stmtG sStmt
  refine Rel.bind (sTake_ok hp hd) fun t s1p a b => Rel.cond (h.branch s1p d b a) ?_
  refine Rel.bind (sTake_ok b a) fun t s1p a b => Rel.cond ?_ ?_
  · refine Rel.bind (sNode_ok b a) fun n s2p a b => ?_
    refine Rel.bind (h.expr 0 s2p d b a) fun e s3p a b => ?_
    exact Rel.bind (h.block s3p d b a) fun b s4p a b => Rel.ok a b
  refine Rel.bind (sTake_ok b a) fun t s1p a b => Rel.cond (sSimple_ok h _ _ s1p d b a) ?_
  refine Rel.bind (sTake_ok b a) fun t s1p a b => Rel.cond (sSimple_ok h _ _ s1p d b a) ?_
  refine Rel.bind (sTake_ok b a) fun t s1p a b => Rel.cond ?_ ?_
  · exact Rel.bind (sMust_ok b a) fun _ s2p a b => sNode_ok b a
  refine Rel.bind (sName_ok b a) fun x s2p a b => ?_
  refine Rel.bind (sTake_ok b a) fun t s1p a b => Rel.cond (sSimple_ok h _ _ s1p d b a) ?_
  refine Rel.bind (sTake_ok b a) fun t s1p a b => Rel.cond (sSimple_ok h _ _ s1p d b a) ?_
  refine Rel.bind (sNode_ok b a) fun n s2p a b => ?_
  refine Rel.bind (h.call x s2p d b a) fun c s3p a b => ?_
  exact Rel.bind (sMust_ok b a) fun _ s4p a b => Rel.ok a b
theorem sBranch_ok (s : PS) (d : Int) (hp : 0 ≤ s.pos) (hd : s.deep = d) : Rel l (branchG l p s) (sBranch g d (vw l s) s.nods) d := by
  unfold branchG sBranch
  refine sDeep_ok hp hd fun s1p a b => ?_
  generalize d + 1 = d at a
  refine Rel.bind (sNode_ok b a) fun n s1p a b => ?_
  refine Rel.bind (h.expr 0 s1p d b a) fun e s1p a b => ?_
  refine Rel.bind (h.block s1p d b a) fun b1 s1p a b => ?_
  refine Rel.bind (sTake_ok b a) fun t s1p a b => Rel.cond (Rel.ok a b) ?_
  refine Rel.bind (sTake_ok b a) fun t s1p a b => Rel.cond ?_ ?_
  · refine Rel.bind (sNode_ok b a) fun q s1p a b => ?_
    exact Rel.bind (h.branch s1p d b a) fun x s1p a b => Rel.ok a b
  · exact Rel.bind (h.block s1p d b a) fun b2 s1p a b => Rel.ok a b
end
theorem sF_ok (l : List Tok) : ∀ f, RRel l (psF l f) (sF f)
  | 0 => ⟨fun _ _ _ _ _ => Rel.none, fun _ _ _ _ => Rel.none, fun _ _ _ _ _ => Rel.none, fun _ _ _ _ => Rel.none, fun _ _ _ _ => Rel.none, fun _ _ _ _ => Rel.none⟩
  | f + 1 => ⟨sExpr_ok (sF_ok l f), sUnary_ok (sF_ok l f), sCall_ok (sF_ok l f), sBlock_ok (sF_ok l f), sStmt_ok (sF_ok l f), sBranch_ok (sF_ok l f)⟩
/-! ### Declarations, programs, texts -/
section
variable (g : SRec)
def sParamL : Nat → Nd → List Wd → Int → SR Nd
  | 0, _, _, _ => none
  | j + 1, n, ws, m => (sTake [41] ws m).bind fun y => bif y.1 then some (n, y.2.1, y.2.2) else
    (bif decide (n.kidsOf.length > 0) then sMust [44] y.2.1 y.2.2 else some ((), y.2.1, y.2.2)).bind fun y =>
    bif decide (n.kidsOf.length ≥ 6) then none else
    (sName y.2.1 y.2.2).bind fun x => (sTyp x.2.1 x.2.2).bind fun t => (sNode (.mk 5 t.1 x.1 0 []) t.2.1 t.2.2).bind fun q => sParamL j (n.addKid q.1) q.2.1 q.2.2
def sLit (ws : List Wd) (m : Int) : SR Nd := (sTake [45] ws m).bind fun mi => (sPlain mi.2.1 mi.2.2).bind fun x =>
  bif !x.1.2 || (mi.1 && x.1.1.kind == 22) then none
  else some (bif mi.1 && x.1.1.kind == 20 then x.1.1.setN (IntKind.i64.wrap (0 - x.1.1.num)) else bif mi.1 && x.1.1.kind == 21 then x.1.1.setN (negB x.1.1.num) else x.1.1, x.2.1, x.2.2)
def sDecl (d : Int) (ws : List Wd) (m : Int) : SR Nd :=
  (sTake wVar ws m).bind fun y => bif y.1 then (sName y.2.1 y.2.2).bind fun x => (sTyp x.2.1 x.2.2).bind fun t => (sNode (.mk 2 t.1 x.1 0 []) t.2.1 t.2.2).bind fun n => (sMust [61] n.2.1 n.2.2).bind fun z => (sLit z.2.1 z.2.2).bind fun v => (sMust [59] v.2.1 v.2.2).bind fun z => some (n.1.setKids [v.1], z.2.1, z.2.2) else
  (sTake wTest y.2.1 y.2.2).bind fun y => bif y.1 then (sName y.2.1 y.2.2).bind fun x => (sNode (.mk 4 0 x.1 0 []) x.2.1 x.2.2).bind fun n => (g.block d n.2.1 n.2.2).bind fun b => some (n.1.setKids [b.1], b.2.1, b.2.2) else
  (sMust wFunc y.2.1 y.2.2).bind fun y => (sName y.2.1 y.2.2).bind fun x => (sNode (.mk 3 0 x.1 0 []) x.2.1 x.2.2).bind fun n => (sMust [40] n.2.1 n.2.2).bind fun z =>
  (sParamL (z.2.1.length + 1) n.1 z.2.1 z.2.2).bind fun n => (sTyp n.2.1 n.2.2).bind fun t => (g.block d t.2.1 t.2.2).bind fun b => some ((n.1.setT t.1).addKid b.1, b.2.1, b.2.2)
def sProgL (d : Int) : Nat → Int → Int → Nd → List Wd → Int → SR Nd
  | 0, _, _, _, _, _ => none
  | j + 1, fs, gs, n, ws, m => bif sKind ws != 0 then
      (bif decide ((bif sIs wVar ws then gs + 1 else gs) > 16) || decide ((bif sIs wVar ws then fs else fs + 1) > 32) then none else (sDecl g d ws m).bind fun y => sProgL d j (bif sIs wVar ws then fs else fs + 1) (bif sIs wVar ws then gs + 1 else gs) (n.addKid y.1) y.2.1 y.2.2)
    else some (n, ws, m)
def sProg (d : Int) (ws : List Wd) (m : Int) : SR Nd := (sNode (.mk 1 0 [] 0 []) ws m).bind fun y => sProgL g d (y.2.1.length + 1) 0 0 y.1 y.2.1 y.2.2
end
theorem sParamL_ok {l : List Tok} {d : Int} : ∀ (J j : Nat) (n : Nd) (s : PS), J ≤ j → 0 ≤ s.pos → s.deep = d → Rel l (paramL l j n s) (sParamL J n (vw l s) s.nods) d
  | 0, _, n, s, _, _, _ => Rel.none
  | J + 1, 0, n, s, hj, _, _ => by omega
  | J + 1, j + 1, n, s, hj, hp, hd => by
    unfold paramL sParamL
    refine Rel.bind (sTake_ok hp hd) fun t s1p a b => Rel.cond (Rel.ok a b) ?_
    refine Rel.bind (d := d) (Rel.cond (sMust_ok b a) (Rel.ok a b)) fun _ s2p a b => Rel.cond Rel.none ?_
    refine Rel.bind (sName_ok b a) fun x s3p a b => ?_
    refine Rel.bind (sTyp_ok b a) fun t s3p a b => ?_
    exact Rel.bind (sNode_ok b a) fun q s3p a b => sParamL_ok J j _ s3p (by omega) b a
theorem sLit_ok {l : List Tok} {d : Int} (s : PS) (hp : 0 ≤ s.pos) (hd : s.deep = d) : Rel l (pLit l s) (sLit (vw l s) s.nods) d := by
  unfold pLit sLit
  refine Rel.bind (sTake_ok hp hd) fun t s1p a b => ?_
  refine Rel.bind (sPlain_ok b a) fun x s2p a b => ?_
  exact Rel.cond Rel.none (Rel.ok a b)
theorem sDecl_ok {l : List Tok} {p : PRec} {g : SRec} (h : RRel l p g) {d : Int} (s : PS) (hp : 0 ≤ s.pos) (hd : s.deep = d) : Rel l (declG l p s) (sDecl g d (vw l s) s.nods) d := by
  unfold declG sDecl
  refine Rel.bind (sTake_ok hp hd) fun t s1p a b => Rel.cond ?_ ?_
  · refine Rel.bind (sName_ok b a) fun x s3p a b => ?_
    refine Rel.bind (sTyp_ok b a) fun t s3p a b => ?_
    refine Rel.bind (sNode_ok b a) fun n s3p a b => ?_
    refine Rel.bind (sMust_ok b a) fun _ s3p a b => ?_
    refine Rel.bind (sLit_ok _ b a) fun v s3p a b => ?_
    exact Rel.bind (sMust_ok b a) fun _ s3p a b => Rel.ok a b
  refine Rel.bind (sTake_ok b a) fun t s1p a b => Rel.cond ?_ ?_
  · refine Rel.bind (sName_ok b a) fun x s3p a b => ?_
    refine Rel.bind (sNode_ok b a) fun n s3p a b => ?_
    exact Rel.bind (h.block s3p d b a) fun _ s3p a b => Rel.ok a b
  refine Rel.bind (sMust_ok b a) fun _ s3p a b => ?_
  refine Rel.bind (sName_ok b a) fun x s3p a b => ?_
  refine Rel.bind (sNode_ok b a) fun n s3p a b => ?_
  refine Rel.bind (sMust_ok b a) fun _ s3p a b => ?_
  refine Rel.bind (sParamL_ok _ _ _ s3p (Nat.add_le_add_right (vw_len l s3p) 1) b a) fun n s3p a b => ?_
  refine Rel.bind (sTyp_ok b a) fun t s3p a b => ?_
  exact Rel.bind (h.block s3p d b a) fun _ s3p a b => Rel.ok a b
theorem sProgL_ok {l : List Tok} {p : PRec} {g : SRec} (h : RRel l p g) {d : Int} : ∀ (J j : Nat) (fs gs : Int) (n : Nd) (s : PS), J ≤ j → 0 ≤ s.pos → s.deep = d → Rel l (progL l p j fs gs n s) (sProgL g d J fs gs n (vw l s) s.nods) d
  | 0, _, fs, gs, n, s, _, _, _ => Rel.none
  | J + 1, 0, fs, gs, n, s, hj, _, _ => by omega
  | J + 1, j + 1, fs, gs, n, s, hj, hp, hd => by
    unfold progL sProgL
    simp only [sKind_ok hp, sIs_ok hp]
    refine Rel.cond (Rel.cond Rel.none ?_) (Rel.ok hd hp)
    exact Rel.bind (sDecl_ok h s hp hd) fun x s1p a b => sProgL_ok h J j _ _ _ s1p (by omega) b a
theorem sProg_ok {l : List Tok} {p : PRec} {g : SRec} (h : RRel l p g) {d : Int} (s : PS) (hp : 0 ≤ s.pos) (hd : s.deep = d) : Rel l (progG l p s) (sProg g d (vw l s) s.nods) d := by
  unfold progG sProg
  exact Rel.bind (sNode_ok hp hd) fun n s1p a b => sProgL_ok h _ _ _ _ n s1p (Nat.add_le_add_right (vw_len l s1p) 1) b a
theorem parse_of {x : List UInt8} {f : Nat} {n : Nd} {ws : List Wd} {m : Int} (h1 : (tokens x).2.2 = 0) (h2 : sProg (sF f) 0 (stripT (tokens x).1) 0 = some (n, ws, m)) : parseF f x = some (n, 0, 0) := by
  unfold parseF
  rw [if_pos h1]
  obtain ⟨s', e, _⟩ := sProg_ok (sF_ok (tokens x).1 f) ⟨0, 0, 0⟩ (Int.le_refl 0) rfl n ws m h2
  rw [e]
end
end Go.Proofs.YtpagdhbmbnoddaaGreatDoor.Zz
/- The words of a text, told from its end on. -/
namespace Go.Proofs.YtpagdhbmbnoddaaGreatDoor.Zz
set_option linter.unusedVariables false
set_option linter.unusedSimpArgs false
/-- The words of a text, with blanks ahead. -/
def TokB (l : List UInt8) (ws : List Wd) : Prop := ∀ (n p : Nat) (out : List Tok), (l.drop (blankL l)).length < n → ∃ ts, toksN n p (l.drop (blankL l)) out = (out ++ ts, 0, 0) ∧ stripT ts = ws
theorem TokB.nil : TokB [] [(0, [])] := fun n p out h => by
  cases n with
  | zero => simp at h
  | succ n => exact ⟨[(0, [], (p : Int))], by rw [show ([] : List UInt8).drop (blankL []) = [] from rfl]; rfl, rfl⟩
theorem TokB.sp {r : List UInt8} {ws : List Wd} {c : UInt8} (hc : isSp c = true) (h : TokB r ws) : TokB (c :: r) ws := by
  have e : (c :: r).drop (blankL (c :: r)) = r.drop (blankL r) := by
    rw [blankL_cons, if_pos hc, Nat.add_comm 1]
    rfl
  unfold TokB
  rw [e]
  exact h
theorem TokB.word {l : List UInt8} (k : Int) (w r : List UInt8) {ws : List Wd} (e : l = w ++ r) (h0 : blankL l = 0) (h1 : oneL l = (k, w, true)) (hw : w ≠ []) (h : TokB r ws) : TokB l ((k, w) :: ws) := by
  unfold TokB
  rw [h0, List.drop_zero]
  intro n p out hn
  cases n with
  | zero => omega
  | succ n =>
    have hne : ¬ l = [] := fun x => by rw [e] at x; exact hw (List.append_eq_nil_iff.1 x).1
    unfold toksN
    rw [if_neg hne, h1]
    simp only [reduceCtorEq, if_false, Bool.true_eq_false]
    have e1 : l.drop w.length = r := by rw [e, List.drop_left]
    have e2 : ∀ b, l.drop (w.length + b) = r.drop b := fun b => by rw [← List.drop_drop, e1]
    rw [e1, e2]
    have hwl : 0 < w.length := List.length_pos_iff.2 hw
    have hl : l.length = w.length + r.length := by rw [e, List.length_append]
    obtain ⟨ts, a, b⟩ := h n (p + w.length + blankL r) (out ++ [(k, w, (p : Int))]) (by rw [List.length_drop]; omega)
    exact ⟨(k, w, (p : Int)) :: ts, by rw [a]; simp, by simp [stripT, ← b]⟩
theorem tokens_of {x : List UInt8} {ws : List Wd} (h : TokB x ws) (hl : x.length ≤ 4096) : (tokens x).2.2 = 0 ∧ stripT (tokens x).1 = ws := by
  obtain ⟨ts, a, b⟩ := h (x.length + 1) (blankL x) [] (by rw [List.length_drop]; omega)
  unfold tokens
  rw [if_neg (by omega), a]
  exact ⟨rfl, by simpa using b⟩
theorem spn_app {p : Int → Bool} : ∀ (w r : List UInt8), (∀ x ∈ w, p (x.toNat : Int) = true) → spn p r = 0 → spn p (w ++ r) = w.length
  | [], r, _, h => by simpa using h
  | c :: w, r, hw, h => by
    rw [List.cons_append, spn_cons, if_pos (hw c (by simp)), spn_app w r (fun x hx => hw x (by simp [hx])) h]
    rfl
theorem letter_ok {c : UInt8} (hc : isLetter (c.toNat : Int) = true) : isDigit (c.toNat : Int) = false ∧ isSp c = false ∧ c ≠ 47 ∧ nameP (c.toNat : Int) = true := by
  simp only [isLetter, Bool.or_eq_true, Bool.and_eq_true, decide_eq_true_eq, beq_iff_eq] at hc
  refine ⟨?_, ?_, ?_, ?_⟩
  · simp only [isDigit, Bool.and_eq_false_iff, decide_eq_false_iff_not]; omega
  · simp only [isSp, Bool.or_eq_false_iff, beq_eq_false_iff_ne]; omega
  · intro e; subst e
    have : (47 : UInt8).toNat = 47 := rfl
    omega
  · simp only [nameP, isLetter, Bool.or_eq_true, Bool.and_eq_true, decide_eq_true_eq, beq_iff_eq]; exact .inl hc
theorem pre_first {c : UInt8} {t : List UInt8} (h : c ≠ 47) : pre (c :: t) [47, 47] = false := by
  cases t with
  | nil => simp [pre]
  | cons d t => simp [pre, h]
/-- A name, or a word that is kept. -/
theorem TokB.name {l : List UInt8} (k : Int) (c : UInt8) (w r : List UInt8) {ws : List Wd} (e : l = (c :: w) ++ r) (hc : isLetter (c.toNat : Int) = true) (hw : ∀ x ∈ w, nameP (x.toNat : Int) = true) (hr : spn nameP r = 0)
    (hk : (words.contains (c :: w) = true ∧ k = 4) ∨ (words.contains (c :: w) = false ∧ k = 1 ∧ (c :: w).length ≤ 16)) (h : TokB r ws) : TokB l ((k, c :: w) :: ws) := by
  obtain ⟨a1, a2, a3, a4⟩ := letter_ok hc
  subst e
  refine TokB.word k (c :: w) r rfl ?_ ?_ (by simp) h
  · rw [List.cons_append, blankL_cons, if_neg (by simp [a2]), if_neg (by simp [pre_first a3])]
  · have hcw : ∀ x ∈ c :: w, nameP (x.toNat : Int) = true := fun x hx => (List.mem_cons.1 hx).elim (fun e => by rw [e]; exact a4) (fun e => hw x e)
    have hs := spn_app (p := nameP) (c :: w) r hcw hr
    have hg : ((c :: w) ++ r).getD 0 0 = c := rfl
    have ht : ((c :: w) ++ r).take (c :: w).length = c :: w := List.take_left
    unfold oneL
    rw [hg, if_neg (by simp [a1]), if_pos hc, hs, ht]
    rcases hk with ⟨b1, b2⟩ | ⟨b1, b2, b3⟩
    · rw [if_pos b1, b2]
    · rw [if_neg (by rw [b1]; simp), b2]
      simpa using b3
theorem spn_zero {p : Int → Bool} {c : UInt8} {r : List UInt8} (h : p (c.toNat : Int) = false) : spn p (c :: r) = 0 := by rw [spn_cons, if_neg (by simp [h])]
end Go.Proofs.YtpagdhbmbnoddaaGreatDoor.Zz
/- Parts that are parsed, told of words. -/
namespace Go.Proofs.YtpagdhbmbnoddaaGreatDoor.Zz
set_option linter.unusedVariables false
set_option linter.unusedSimpArgs false
/-! ### Parts that are parsed -/
section
theorem sNode_lt {n : Nd} {ws : List Wd} {m : Int} (h : m + 1 ≤ 2000) : sNode n ws m = some (n, ws, m + 1) := if_neg (by omega)
theorem sDeep_lt {α : Type} {body : Int → List Wd → Int → SR α} {d : Int} {ws : List Wd} {m : Int} (h : d + 1 ≤ 40) : sDeep body d ws m = body (d + 1) ws m := if_neg (by omega)
theorem sTake_no {x : List UInt8} {ws : List Wd} {m : Int} (h : sIs x ws = false) : sTake x ws m = some (false, ws, m) := by rw [sTake, h]; rfl
theorem sTake_yes {x : List UInt8} {ws : List Wd} {m : Int} (h : sIs x ws = true) : sTake x ws m = some (true, ws.tail, m) := by rw [sTake, h]; rfl
theorem sMust_yes {x : List UInt8} {ws : List Wd} {m : Int} (h : sIs x ws = true) : sMust x ws m = some ((), ws.tail, m) := by rw [sMust, h]; rfl
theorem sIs_name {x w : List UInt8} {r : List Wd} : sIs x ((1, w) :: r) = false := by simp [sIs]
theorem sIs_lit {x w : List UInt8} {r : List Wd} : sIs x ((2, w) :: r) = false := by simp [sIs]
theorem sName_yes {w : List UInt8} {r : List Wd} {m : Int} : sName ((1, w) :: r) m = some (w, r, m) := rfl
theorem sF_expr (f : Nat) (k d : Int) (ws : List Wd) (m : Int) : (sF (f + 1)).expr k d ws m = sExpr (sF f) k d ws m := rfl
theorem sF_unary (f : Nat) (d : Int) (ws : List Wd) (m : Int) : (sF (f + 1)).unary d ws m = sUnary (sF f) d ws m := rfl
theorem sF_call (f : Nat) (x : List UInt8) (d : Int) (ws : List Wd) (m : Int) : (sF (f + 1)).call x d ws m = sCall (sF f) x d ws m := rfl
theorem sF_block (f : Nat) (d : Int) (ws : List Wd) (m : Int) : (sF (f + 1)).block d ws m = sBlock (sF f) d ws m := rfl
theorem sF_stmt (f : Nat) (d : Int) (ws : List Wd) (m : Int) : (sF (f + 1)).stmt d ws m = sStmt (sF f) d ws m := rfl
theorem sF_branch (f : Nat) (d : Int) (ws : List Wd) (m : Int) : (sF (f + 1)).branch d ws m = sBranch (sF f) d ws m := rfl
/-- A name that is a variable. -/
theorem sUnary_var (g : SRec) {w : List UInt8} {r : List Wd} {d m : Int} (h : sIs [40] r = false) (hm : m + 1 ≤ 2000) : sUnary g d ((1, w) :: r) m = some (.mk 23 0 w 0 [], r, m + 1) := by
  have hp : sPlain ((1, w) :: r) m = some ((.mk 0 0 [] 0 [], false), (1, w) :: r, m) := by
    unfold sPlain; rw [sIs_name, sIs_name]; rfl
  unfold sUnary
  rw [sTake_no sIs_name, Option.bind_some]
  simp only [cond_false]
  rw [sTake_no sIs_name, Option.bind_some]
  simp only [cond_false]
  rw [hp, Option.bind_some]
  simp only [cond_false]
  rw [sTake_no sIs_name, Option.bind_some]
  simp only [cond_false]
  rw [sTake_no sIs_name, Option.bind_some]
  simp only [cond_false]
  rw [sTake_no sIs_name, Option.bind_some]
  simp only [cond_false]
  rw [sName_yes, Option.bind_some]
  simp only [h, cond_false]
  exact sNode_lt hm
theorem sExprL_stop {g : SRec} {k d : Int} {j : Nat} {n : Nd} {sg : List UInt8} {r : List Wd} {m : Int} (h : rankF sg ≤ k) : sExprL g k d (j + 1) n ((5, sg) :: r) m = some (n, (5, sg) :: r, m) := by
  unfold sExprL
  have : (sKind ((5, sg) :: r) != 5 || decide (rankF (sWord ((5, sg) :: r)) ≤ k)) = true := by simp [sKind, sWord, h]
  rw [this]; rfl
theorem sExprL_go {g : SRec} {k d : Int} {j : Nat} {n : Nd} {sg : List UInt8} {r : List Wd} {m : Int} (h : k < rankF sg) : sExprL g k d (j + 1) n ((5, sg) :: r) m = (g.expr (rankF sg) d r m).bind fun y => (sNode (.mk 26 0 sg 0 [n, y.1]) y.2.1 y.2.2).bind fun z => sExprL g k d j z.1 z.2.1 z.2.2 := by
  show (bif _ then _ else _) = _
  have : (sKind ((5, sg) :: r) != 5 || decide (rankF (sWord ((5, sg) :: r)) ≤ k)) = false := by
    rw [Bool.or_eq_false_iff]; exact ⟨rfl, decide_eq_false (Int.not_le.2 h)⟩
  rw [this]; rfl
/-- A variable alone, ahead of a sign that binds no more strongly. -/
theorem sExpr_var {f : Nat} {k d : Int} {w sg : List UInt8} {r : List Wd} {m : Int} (h : rankF sg ≤ k) (hs : (sg == [40]) = false) (hd : d + 1 ≤ 40) (hm : m + 1 ≤ 2000) : (sF (f + 2)).expr k d ((1, w) :: (5, sg) :: r) m = some (.mk 23 0 w 0 [], (5, sg) :: r, m + 1) := by
  rw [sF_expr]
  unfold sExpr
  rw [sDeep_lt hd, sF_unary, sUnary_var _ (by simp [sIs, hs]) hm, Option.bind_some]
  exact sExprL_stop h
end
theorem sIs_kw {x w : List UInt8} {r : List Wd} : sIs x ((4, w) :: r) = (w == x) := by simp [sIs]
theorem sIs_sg {x w : List UInt8} {r : List Wd} : sIs x ((5, w) :: r) = (w == x) := by simp [sIs]
end Go.Proofs.YtpagdhbmbnoddaaGreatDoor.Zz
