/- Contracts: types, nodes, depth. -/
import Derived.Test.YtpagdhbmbnoddaaGreatDoorZP1
set_option linter.unnecessarySimpa false
namespace Go.Proofs.YtpagdhbmbnoddaaGreatDoor.Zz
noncomputable section
set_option linter.unusedVariables false
set_option linter.unusedSimpArgs false
set_option maxRecDepth 20000
def p32p : Plan := ⟨⟨[], [(3, 1)], [], [], [], []⟩, [], [], false⟩
/-- (*cupel/parse.parser).node (2 parameters, 0 captured) -/
def s32p : Stm :=
 .seq (.ops [⟨.box (.t 1), (some 3), none, false⟩,
 ⟨.alloc [(.int .i64 0), (.int .i64 0), (.str []), (.int .i64 0), .nilsl], (some 4), none, false⟩])
 (.seq (.seq (.ops [⟨.mov (.t 0), (some 5), none, true⟩,
 ⟨.nilCheck (.t 5), (some 6), none, true⟩,
 ⟨.fieldAddr 2 (.t 6), (some 7), none, true⟩,
 ⟨.load none (.t 7), (some 8), none, false⟩,
 ⟨.bin .add (.t 8) (.c (.int .i64 1)), (some 9), none, true⟩,
 ⟨.nilCheck (.t 5), (some 10), none, true⟩,
 ⟨.fieldAddr 2 (.t 10), (some 11), none, true⟩,
 ⟨.store 1 (.t 11) (.t 9), none, none, false⟩])
 (.seq (.ops [⟨.mov (.t 0), (some 12), none, true⟩,
 ⟨.nilCheck (.t 12), (some 13), none, true⟩,
 ⟨.fieldAddr 2 (.t 13), (some 14), none, true⟩,
 ⟨.load none (.t 14), (some 15), none, false⟩,
 ⟨.bin .gtr (.t 15) (.c (.int .i64 2000)), (some 16), none, true⟩])
 (.cond (.t 16)
 (.ops [⟨.mov (.t 0), (some 17), none, true⟩,
 ⟨.call (.f 35) [(.t 17), (.c (.int .i64 3))], (some 18), none, false⟩])
 (.skip))))
 (.seq (.ops [⟨.load (some 5) (.t 3), (some 19), none, false⟩,
 ⟨.store 5 (.t 4) (.t 19), none, none, false⟩])
 (.ret)))
theorem st32p : stmOf Tryz.prog 32 p32p = some (s32p, [.cell 4 (some 5)], 20) := by kernel_rfl

def p45p : Plan := ⟨⟨[], [], [], [], [], []⟩, [], [], false⟩
/-- cupel/ast.TypeName (1 parameters, 0 captured) -/
def s45p : Stm :=
 .seq (.ops [⟨.mov (.c (.str [])), (some 2), none, true⟩])
 (.seq (.seq (.ops [⟨.mov (.t 0), (some 3), none, true⟩])
 (.block 0 (.seq (.ops [⟨.bin .eql (.t 3) (.c (.int .i64 1)), (some 5), none, true⟩,
 ⟨.mov (.t 5), (some 4), none, true⟩])
 (.cond (.t 4)
 (.seq (.ops [⟨.mov (.c (.str [105, 110, 116])), (some 2), none, true⟩])
 (.ret))
 (.seq (.ops [⟨.bin .eql (.t 3) (.c (.int .i64 2)), (some 7), none, true⟩,
 ⟨.mov (.t 7), (some 6), none, true⟩])
 (.cond (.t 6)
 (.seq (.ops [⟨.mov (.c (.str [102, 108, 111, 97, 116])), (some 2), none, true⟩])
 (.ret))
 (.seq (.ops [⟨.bin .eql (.t 3) (.c (.int .i64 3)), (some 9), none, true⟩,
 ⟨.mov (.t 9), (some 8), none, true⟩])
 (.cond (.t 8)
 (.seq (.ops [⟨.mov (.c (.str [98, 111, 111, 108])), (some 2), none, true⟩])
 (.ret))
 (.skip)))))))))
 (.seq (.ops [⟨.mov (.c (.str [])), (some 2), none, true⟩])
 (.ret)))
theorem st45p : stmOf Tryz.prog 45 p45p = some (s45p, [.tmp 2], 10) := by kernel_rfl

def p62p : Plan := ⟨⟨[], [(4, 3), (6, 1)], [], [], [], []⟩, [], [], false⟩
/-- (*cupel/parse.parser).typ (1 parameters, 0 captured) -/
def s62p : Stm :=
 .seq (.ops [⟨.mov (.c (.int .i64 0)), (some 2), none, true⟩])
 (.seq (.seq (.ops [⟨.mov (.c (.int .i64 1)), (some 3), none, true⟩])
 (.block 0 (.loop (.seq (.seq (.ops [⟨.mov (.t 3), (some 4), none, true⟩,
 ⟨.bin .leq (.t 4) (.c (.int .i64 3)), (some 5), none, true⟩])
 (.cond (.t 5)
 (.skip)
 (.exit 0)))
 (.seq (.block 1 (.seq (.ops [⟨.mov (.t 0), (some 8), none, true⟩,
 ⟨.mov (.t 3), (some 9), none, true⟩,
 ⟨.qcall (.f 45) [(.t 9)], (some 10), none, false⟩,
 ⟨.call (.f 60) [(.t 8), (.t 10)], (some 11), none, false⟩])
 (.cond (.t 11)
 (.seq (.ops [⟨.mov (.t 3), (some 12), none, true⟩,
 ⟨.mov (.t 12), (some 2), none, true⟩])
 (.ret))
 (.skip))))
 (.ops [⟨.mov (.t 3), (some 6), none, true⟩,
 ⟨.bin .add (.t 6) (.c (.int .i64 1)), (some 7), none, true⟩,
 ⟨.mov (.t 7), (some 3), none, true⟩]))))))
 (.seq (.ops [⟨.mov (.t 0), (some 13), none, true⟩,
 ⟨.call (.f 35) [(.t 13), (.c (.int .i64 110))], (some 14), none, false⟩])
 (.seq (.ops [⟨.mov (.c (.int .i64 0)), (some 2), none, true⟩])
 (.ret))))
theorem st62p : stmOf Tryz.prog 62 p62p = some (s62p, [.tmp 2], 15) := by kernel_rfl

def p86p : Plan := ⟨⟨[], [(3, 1)], [], [], [], []⟩, [], [], false⟩
/-- (*cupel/parse.parser).in (1 parameters, 0 captured) -/
def s86p : Stm :=
 .seq (.ops [⟨.box (.t 0), (some 1), none, false⟩,
 ⟨.mov (.c .nilfunc), (some 2), none, true⟩])
 (.seq (.seq (.ops [⟨.load none (.t 1), (some 3), none, false⟩,
 ⟨.nilCheck (.t 3), (some 4), none, true⟩,
 ⟨.fieldAddr 3 (.t 4), (some 5), none, true⟩,
 ⟨.load none (.t 5), (some 6), none, false⟩,
 ⟨.bin .add (.t 6) (.c (.int .i64 1)), (some 7), none, true⟩,
 ⟨.nilCheck (.t 3), (some 8), none, true⟩,
 ⟨.fieldAddr 3 (.t 8), (some 9), none, true⟩,
 ⟨.store 1 (.t 9) (.t 7), none, none, false⟩])
 (.seq (.ops [⟨.load none (.t 1), (some 10), none, false⟩,
 ⟨.nilCheck (.t 10), (some 11), none, true⟩,
 ⟨.fieldAddr 3 (.t 11), (some 12), none, true⟩,
 ⟨.load none (.t 12), (some 13), none, false⟩,
 ⟨.bin .gtr (.t 13) (.c (.int .i64 40)), (some 14), none, true⟩])
 (.cond (.t 14)
 (.ops [⟨.load none (.t 1), (some 15), none, false⟩,
 ⟨.call (.f 35) [(.t 15), (.c (.int .i64 3))], (some 16), none, false⟩])
 (.skip))))
 (.seq (.ops [⟨.mkFunc (.func 103) [] [(.t 1)], (some 17), none, true⟩,
 ⟨.mov (.t 17), (some 2), none, true⟩])
 (.ret)))
theorem st86p : stmOf Tryz.prog 86 p86p = some (s86p, [.tmp 2], 18) := by kernel_rfl

def p103p : Plan := ⟨⟨[], [], [], [], [], []⟩, [], [], false⟩
/-- (*cupel/parse.parser).in$1 (0 parameters, 1 captured) -/
def s103p : Stm :=
 .ops [⟨.load none (.t 0), (some 1), none, false⟩,
 ⟨.nilCheck (.t 1), (some 2), none, true⟩,
 ⟨.fieldAddr 3 (.t 2), (some 3), none, true⟩,
 ⟨.load none (.t 3), (some 4), none, false⟩,
 ⟨.bin .sub (.t 4) (.c (.int .i64 1)), (some 5), none, true⟩,
 ⟨.nilCheck (.t 1), (some 6), none, true⟩,
 ⟨.fieldAddr 3 (.t 6), (some 7), none, true⟩,
 ⟨.store 1 (.t 7) (.t 5), none, none, false⟩]
theorem st103p : stmOf Tryz.prog 103 p103p = some (s103p, [], 8) := by kernel_rfl

def typeN (t : Int) : List UInt8 := bif t == 1 then wInt else bif t == 2 then wFloat else bif t == 3 then wBool else []
theorem typeName_c (t : Int) : PCall Tryz.prog 45 [.int .i64 t] (.str (typeN t)) := by
  refine PCall.run (Tab.zero_ok _) st45p (by simp) fun E => ?_
  unfold typeN
  cases c1p : (t == 1) <;> cases c2p : (t == 2) <;> cases c3p : (t == 3)
  all_goals simp (config := {maxSteps := 1000000}) only [s45p, c1p, c2p, c3p, wInt, wFloat, wBool, zzK, seval]
def q45p : List D → Option D
  | [.int .i64 t] => some (.str (typeN t))
  | _ => none
theorem q45p_ok (args : List D) (d : D) (h : q45p args = some d) : PCall Tryz.prog 45 args d := by
  unfold q45p at h
  split at h
  · cases h; exact typeName_c _
  · cases h
def tb45p : Tab := tb61p.addQ 45 q45p
theorem tb45p_q (g : FuncId) (args : List D) : tb45p.q g args = if g = 45 then q45p args else tb61p.q g args := rfl
theorem tb45p_a : tb45p.a = tb61p.a := rfl
theorem tb45p_c : tb45p.c = tb61p.c := rfl
theorem tb45p_ok : tb45p.ok Tryz.prog := Tab.addQ_ok tb61p_ok q45p_ok
theorem tb45p_e : type_of% (And.intro (And.intro @tb45p_q (And.intro @tb45p_a @tb45p_c)) @tb61p_e) := (And.intro (And.intro @tb45p_q (And.intro @tb45p_a @tb45p_c)) @tb61p_e)

theorem typ_c (l : List Tok) (hl : LOk l) (s : PS) (id : Nat) (ok : PSok l s) (K0 : Int → PS → Prop) (E0 : Int → Int → Prop) (hw : wpR (pTyp l s) (fun x s' => PSok l s' → K0 x s') E0) : ACalls Tryz.prog 62 [.ptr id 1 0] (AHeap.emp.set id (pObj l s)) (retP (fun t => D.int .i64 t) l id K0 E0) := by
  refine ACalls.of_stmD tb45p_ok (dc := DTab.none) (fun _ _ => DTab.none_ok) (by kernel_rfl) st62p (by simp) ?_
  rw [vc_todo]
  simp (config := {maxSteps := 1000000}) only [s62p, tb45p_e, zzK, seval]
  refine run_loop (X := Nat) (fun i => [(0, .ptr id 1 0), (3, .int .i64 i)]) (fun _ => AHeap.emp.set id (pObj l s)) (fun i => 4 - i) (fun i => 1 ≤ i ∧ i ≤ 4 ∧ ∀ j : Nat, 1 ≤ j → j < i → pIs l (typeN j) s = false) 1 ⟨by omega, by omega, fun j h1 h2 => by omega⟩ (by simp only [zzK, seval]) (AHeap.sub_refl _) ?_
  rintro i Q ⟨i1, i2, i3⟩ hQ
  have hstep : ∀ (hi : i ≤ 3) (b : Bool), pIs l (typeN i) s = b → (b = true → wpR (pTyp l s) (fun x s' => PSok l s' → K0 x s') E0 → K0 i (pStep s)) := fun hi b hb e hw => by
    subst e
    have ok' := pIs_fin hl ok hb
    have e1 : 1 < i → pIs l wInt s = false := fun h => i3 1 (by omega) h
    have e2 : 2 < i → pIs l wFloat s = false := fun h => i3 2 (by omega) h
    unfold pTyp at hw
    rcases (by omega : i = 1 ∨ i = 2 ∨ i = 3) with rfl | rfl | rfl
    · have hb : pIs l wInt s = true := hb
      rw [hb] at hw; exact hw ok'
    · have hb : pIs l wFloat s = true := hb
      rw [e1 (by omega), hb] at hw; exact hw ok'
    · have hb : pIs l wBool s = true := hb
      rw [e1 (by omega), e2 (by omega), hb] at hw; exact hw ok'
  by_cases c0p : i ≤ 3
  · have g : ((i : Int) ≤ 3) = True := eq_true (by omega)
    have hq : q45p [.int .i64 i] = some (.str (typeN i)) := rfl
    have wi : IntKind.i64.wrap ((i : Int) + 1) = ((i + 1 : Nat) : Int) := wrap_succ (by omega)
    simp (config := {maxSteps := 1000000}) only [g, hq, tb45p_e, zzK, seval]
    refine ⟨l, s, id, typeN i, rfl, hl, by simp, ok, ?_⟩
    unfold pTake
    cases c : pIs l (typeN i) s with
    | true =>
      rw [cond_true, wpR_ok]
      intro ok'
      simp (config := {maxSteps := 1000000}) only [retD_ret, leav_nil, finD, tb45p_e, zzK, seval]
      exact mid_ret (x := (i : Int)) (s' := pStep s) rfl (by simp) (hstep c0p true c rfl hw)
    | false =>
      rw [cond_false, wpR_ok]
      intro _
      simp (config := {maxSteps := 1000000}) only [wi, tb45p_e, zzK, seval]
      refine hQ (i + 1) _ _ ⟨by omega, by omega, fun j h1 h2 => ?_⟩ (by simp only [zzK, seval]) ?_ (by omega)
      · by_cases e : j = i
        · subst e; exact c
        · exact i3 j h1 (by omega)
      · exact AHeap.sub_refl _
  · have e0 : i = 4 := by omega
    subst e0
    have e1 : pIs l wInt s = false := i3 1 (by omega) (by omega)
    have e2 : pIs l wFloat s = false := i3 2 (by omega) (by omega)
    have e3 : pIs l wBool s = false := i3 3 (by omega) (by omega)
    simp (config := {maxSteps := 1000000}) only [tb45p_e, zzK, seval]
    refine ⟨l, s, id, 110, rfl, by simp, ok.at_, ?_⟩
    unfold pTyp at hw
    rw [e1, e2, e3] at hw
    simp only [panD, leav_nil, finD]
    exact mid_pan (s' := s) (by simp) hw
def cTyp (args : List D) (h : AHeap) (K E : D → AHeap → Prop) : Prop := ∃ (l : List Tok) (s : PS) (id : Nat) , args = [.ptr id 1 0] ∧ LOk l ∧ cP (pTyp l) (fun t => D.int .i64 t) l s id h K E
theorem cTyp_mono (args : List D) (h : AHeap) (K E K' E' : D → AHeap → Prop) (hk : ∀ d h, K d h → K' d h) (he : ∀ d h, E d h → E' d h) (c : cTyp args h K E) : cTyp args h K' E' := by
  obtain ⟨l, s, id, a, b, c⟩ := c
  exact ⟨l, s, id, a, b, cP_mono hk he c⟩
theorem cTyp_ok (args : List D) (h : AHeap) (K E : D → AHeap → Prop) (c : cTyp args h K E) : ACalls Tryz.prog 62 args h (AOut.to K E) := by
  obtain ⟨l, s, id, rfl, hl, c⟩ := c
  exact cP_ok (fun ok K0 E0 hw => typ_c l hl s id  ok K0 E0 hw) c

def tb62p : Tab := tb45p.addE 62 cTyp cTyp_mono
theorem tb62p_q : tb62p.q = tb45p.q := rfl
theorem tb62p_a : tb62p.a = tb45p.a := rfl
theorem tb62p_c (g : FuncId) (args : List D) (h : AHeap) (K E : D → AHeap → Prop) : tb62p.c g args h K E = if g = 62 then cTyp args h K E else tb45p.c g args h K E := rfl
theorem tb62p_ok : tb62p.ok Tryz.prog := Tab.addE_ok tb45p_ok cTyp_ok
theorem tb62p_e : type_of% (And.intro (And.intro @tb62p_q (And.intro @tb62p_a @tb62p_c)) @tb45p_e) := (And.intro (And.intro @tb62p_q (And.intro @tb62p_a @tb62p_c)) @tb45p_e)

theorem node_c (l : List Tok) (hl : LOk l) (s : PS) (id : Nat) (n : Nd) (ok : PSok l s) (K0 : Nd → PS → Prop) (E0 : Int → Int → Prop) (hw : wpR (pNode l n s) (fun x s' => PSok l s' → K0 x s') E0) : ACalls Tryz.prog 32 [.ptr id 1 0, .agg n.enc] (AHeap.emp.set id (pObj l s)) (retP (fun n => .agg n.enc) l id K0 E0) := by
  refine ACalls.of_stmD tb62p_ok (dc := DTab.none) (fun _ _ => DTab.none_ok) (by kernel_rfl) st32p (by simp) ?_
  rw [vc_todo]
  have w1 : IntKind.i64.wrap (s.nods + 1) = s.nods + 1 := wrap_i64 (by have := ok.n0; omega) (by have := ok.n1; omega)
  unfold pNode at hw
  obtain ⟨nk, nt, ns, nm, nl⟩ := n
  rw [enc_mk]
  simp (config := {maxSteps := 1000000}) only [s32p, pObj, tb62p_e, zzK, seval]
  intro i3 n1 n2 i4 n3 n4 n5 n6
  by_cases c : s.nods + 1 > 2000
  · have g : (s.nods + 1 > 2000) = True := eq_true c
    rw [if_pos c] at hw
    simp (config := {maxSteps := 1000000}) only [g, w1, n1, n2, n3, n4, n5, n6, tb62p_e, zzK, seval]
    refine ⟨l, { s with nods := s.nods + 1 }, id, 3, rfl, by simp [n1, n2, n3, n4, n5, n6, pObj], ok.at_, ?_⟩
    simp only [panD, leav_nil, finD]
    exact mid_pan (s' := { s with nods := s.nods + 1 }) (by simp [n1, n2, n3, n4, n5, n6, pObj]) hw
  · have g : (s.nods + 1 > 2000) = False := eq_false c
    rw [if_neg c] at hw
    simp (config := {maxSteps := 1000000}) only [g, w1, n1, n2, n3, n4, n5, n6, retD_ret, leav_nil, finD, tb62p_e, zzK, seval]
    have ok' : PSok l { s with nods := s.nods + 1 } := by
      obtain ⟨h1, h2, h3, h4, h5, h6⟩ := ok
      exact ⟨h1, h2, by simp only; omega, by simp only; omega, h5, h6⟩
    exact mid_ret (x := .mk nk nt ns nm nl) (s' := { s with nods := s.nods + 1 }) (by rw [enc_mk]) (by simp [n1, n2, n3, n4, n5, n6, pObj]) (hw ok')
def cNode (args : List D) (h : AHeap) (K E : D → AHeap → Prop) : Prop := ∃ (l : List Tok) (s : PS) (id : Nat) (n : Nd), args = [.ptr id 1 0, .agg n.enc] ∧ LOk l ∧ cP (pNode l n) (fun n => .agg n.enc) l s id h K E
theorem cNode_mono (args : List D) (h : AHeap) (K E K' E' : D → AHeap → Prop) (hk : ∀ d h, K d h → K' d h) (he : ∀ d h, E d h → E' d h) (c : cNode args h K E) : cNode args h K' E' := by
  obtain ⟨l, s, id, n, a, b, c⟩ := c
  exact ⟨l, s, id, n, a, b, cP_mono hk he c⟩
theorem cNode_ok (args : List D) (h : AHeap) (K E : D → AHeap → Prop) (c : cNode args h K E) : ACalls Tryz.prog 32 args h (AOut.to K E) := by
  obtain ⟨l, s, id, n, rfl, hl, c⟩ := c
  exact cP_ok (fun ok K0 E0 hw => node_c l hl s id n ok K0 E0 hw) c

/-- A node that has no kids at all yet. -/
def encZ : Nd → List D
  | .mk k t s n _ => [.int .i64 k, .int .i64 t, .str s, .int .i64 n, .nilsl]
theorem nodeZ_c (l : List Tok) (hl : LOk l) (s : PS) (id : Nat) (n : Nd) (ok : PSok l s) (K0 : Nd → PS → Prop) (E0 : Int → Int → Prop) (hw : wpR (pNode l n s) (fun x s' => PSok l s' → K0 x s') E0) : ACalls Tryz.prog 32 [.ptr id 1 0, .agg (encZ n)] (AHeap.emp.set id (pObj l s)) (retP (fun n => .agg (encZ n)) l id K0 E0) := by
  refine ACalls.of_stmD tb62p_ok (dc := DTab.none) (fun _ _ => DTab.none_ok) (by kernel_rfl) st32p (by simp) ?_
  rw [vc_todo]
  have w1 : IntKind.i64.wrap (s.nods + 1) = s.nods + 1 := wrap_i64 (by have := ok.n0; omega) (by have := ok.n1; omega)
  unfold pNode at hw
  obtain ⟨nk, nt, ns, nm, nl⟩ := n
  rw [encZ]
  simp (config := {maxSteps := 1000000}) only [s32p, pObj, tb62p_e, zzK, seval]
  intro i3 n1 n2 i4 n3 n4 n5 n6
  by_cases c : s.nods + 1 > 2000
  · have g : (s.nods + 1 > 2000) = True := eq_true c
    rw [if_pos c] at hw
    simp (config := {maxSteps := 1000000}) only [g, w1, n1, n2, n3, n4, n5, n6, tb62p_e, zzK, seval]
    refine ⟨l, { s with nods := s.nods + 1 }, id, 3, rfl, by simp [n1, n2, n3, n4, n5, n6, pObj], ok.at_, ?_⟩
    simp only [panD, leav_nil, finD]
    exact mid_pan (s' := { s with nods := s.nods + 1 }) (by simp [n1, n2, n3, n4, n5, n6, pObj]) hw
  · have g : (s.nods + 1 > 2000) = False := eq_false c
    rw [if_neg c] at hw
    simp (config := {maxSteps := 1000000}) only [g, w1, n1, n2, n3, n4, n5, n6, retD_ret, leav_nil, finD, tb62p_e, zzK, seval]
    have ok' : PSok l { s with nods := s.nods + 1 } := by
      obtain ⟨h1, h2, h3, h4, h5, h6⟩ := ok
      exact ⟨h1, h2, by simp only; omega, by simp only; omega, h5, h6⟩
    exact mid_ret (x := .mk nk nt ns nm nl) (s' := { s with nods := s.nods + 1 }) rfl (by simp [n1, n2, n3, n4, n5, n6, pObj]) (hw ok')
def cNodeZ (args : List D) (h : AHeap) (K E : D → AHeap → Prop) : Prop := ∃ (l : List Tok) (s : PS) (id : Nat) (n : Nd), args = [.ptr id 1 0, .agg (encZ n)] ∧ LOk l ∧ cP (pNode l n) (fun n => .agg (encZ n)) l s id h K E
theorem cNodeZ_mono (args : List D) (h : AHeap) (K E K' E' : D → AHeap → Prop) (hk : ∀ d h, K d h → K' d h) (he : ∀ d h, E d h → E' d h) (c : cNodeZ args h K E) : cNodeZ args h K' E' := by
  obtain ⟨l, s, id, n, a, b, c⟩ := c
  exact ⟨l, s, id, n, a, b, cP_mono hk he c⟩
theorem cNodeZ_ok (args : List D) (h : AHeap) (K E : D → AHeap → Prop) (c : cNodeZ args h K E) : ACalls Tryz.prog 32 args h (AOut.to K E) := by
  obtain ⟨l, s, id, n, rfl, hl, c⟩ := c
  exact cP_ok (fun ok K0 E0 hw => nodeZ_c l hl s id n ok K0 E0 hw) c

def cNodeA (args : List D) (h : AHeap) (K E : D → AHeap → Prop) : Prop := cNode args h K E ∨ cNodeZ args h K E
theorem cNodeA_mono (args : List D) (h : AHeap) (K E K' E' : D → AHeap → Prop) (hk : ∀ d h, K d h → K' d h) (he : ∀ d h, E d h → E' d h) (c : cNodeA args h K E) : cNodeA args h K' E' := c.elim (fun c => .inl (cNode_mono _ _ _ _ _ _ hk he c)) fun c => .inr (cNodeZ_mono _ _ _ _ _ _ hk he c)
theorem cNodeA_ok (args : List D) (h : AHeap) (K E : D → AHeap → Prop) (c : cNodeA args h K E) : ACalls Tryz.prog 32 args h (AOut.to K E) := c.elim (cNode_ok _ _ _ _) (cNodeZ_ok _ _ _ _)
def tb32p : Tab := tb62p.addE 32 cNodeA cNodeA_mono
theorem tb32p_q : tb32p.q = tb62p.q := rfl
theorem tb32p_a : tb32p.a = tb62p.a := rfl
theorem tb32p_c (g : FuncId) (args : List D) (h : AHeap) (K E : D → AHeap → Prop) : tb32p.c g args h K E = if g = 32 then cNodeA args h K E else tb62p.c g args h K E := rfl
theorem tb32p_ok : tb32p.ok Tryz.prog := Tab.addE_ok tb62p_ok cNodeA_ok
theorem tb32p_e : type_of% (And.intro (And.intro @tb32p_q (And.intro @tb32p_a @tb32p_c)) @tb62p_e) := (And.intro (And.intro @tb32p_q (And.intro @tb32p_a @tb32p_c)) @tb62p_e)

def tb86p : Tab := tb32p.addS 86 s86p [.tmp 2] 18
theorem tb86p_q : tb86p.q = tb32p.q := rfl
theorem tb86p_a : tb86p.a = tb32p.a := rfl
theorem tb86p_c (g : FuncId) (args : List D) (h : AHeap) (K E : D → AHeap → Prop) : tb86p.c g args h K E = if g = 86 then (args.length ≤ 18 ∧ vc tb32p s86p (todo tb32p (retS [.tmp 2] K) (panS E) []) (panS E) (argFr args) h) else tb32p.c g args h K E := rfl
theorem tb86p_ok : tb86p.ok Tryz.prog := Tab.addS_ok tb32p_ok st86p
theorem tb86p_e : type_of% (And.intro (And.intro @tb86p_q (And.intro @tb86p_a @tb86p_c)) @tb32p_e) := (And.intro (And.intro @tb86p_q (And.intro @tb86p_a @tb86p_c)) @tb32p_e)

/-- The depth is taken back. -/
def dIn : DTab := fun k args u h F => k = 103 ∧ ∃ (b id : Nat) (l : List Tok) (s : PS), args = [.ptr b 1 0] ∧ h.f b = some (.cells [.ptr id 1 0]) ∧ h.f id = some (pObj l s) ∧ F u (h.set id (pObj l { s with deep := IntKind.i64.wrap (s.deep - 1) }))
theorem dIn_ok (κ : Kap) (w : World) : dIn.okY Tryz.prog κ w := by
  rintro k args u h F ⟨rfl, b, id, l, s, rfl, hb, hid, hF⟩ κ' w' le
  refine DCallsAt.of_stm ((Tab.zero_ok Tryz.prog).toY κ' w') st103p (by simp) ?_
  have hid' : h.f id = some (.cells [.sl (encT l), .int .i64 s.pos, .int .i64 s.nods, .int .i64 s.deep]) := hid
  simp (config := {maxSteps := 1000000}) only [s103p, hb, hid', retO_normal, zzK, seval]
  exact ⟨_, AHeap.sub_refl _, hF⟩
end
end Go.Proofs.YtpagdhbmbnoddaaGreatDoor.Zz
/- Contracts: literals. -/
namespace Go.Proofs.YtpagdhbmbnoddaaGreatDoor.Zz
noncomputable section
set_option linter.unusedVariables false
set_option linter.unusedSimpArgs false
set_option maxRecDepth 20000
def p83p : Plan := ⟨⟨[], [(1, 1), (10, 1), (12, 1), (15, 2)], [], [], [], []⟩, [], [], false⟩
/-- (*cupel/parse.parser).plain (1 parameters, 0 captured) -/
def s83p : Stm :=
 .seq (.ops [⟨.alloc [(.int .i64 0), (.int .i64 0), (.str []), (.int .i64 0), .nilsl], (some 2), none, false⟩,
 ⟨.mov (.c (.bool false)), (some 3), none, true⟩])
 (.seq (.ops [⟨.mov (.t 0), (some 8), none, true⟩,
 ⟨.call (.f 33) [(.t 8)], (some 9), none, false⟩,
 ⟨.alloc [(.int .i64 0), (.str []), (.int .i64 0)], (some 4), none, false⟩,
 ⟨.store 3 (.t 4) (.t 9), none, none, false⟩])
 (.seq (.ops [⟨.alloc [(.int .i64 0), (.int .i64 0), (.str []), (.int .i64 0), .nilsl], (some 5), none, false⟩])
 (.seq (.block 0 (.seq (.ops [⟨.fieldAddr 0 (.t 4), (some 12), none, true⟩,
 ⟨.load none (.t 12), (some 13), none, false⟩,
 ⟨.bin .eql (.t 13) (.c (.int .i64 2)), (some 14), none, true⟩,
 ⟨.mov (.t 14), (some 11), none, true⟩])
 (.cond (.t 11)
 (.seq (.ops [⟨.fieldAddr 1 (.t 4), (some 16), none, true⟩,
 ⟨.load none (.t 16), (some 17), none, false⟩,
 ⟨.qcall (.f 102) [(.t 17), (.c (.int .i64 10)), (.c (.int .i64 64))], (some 18), none, false⟩,
 ⟨.mov (.t 18), (some 15), none, true⟩,
 ⟨.extract (.t 15) 0, (some 19), none, true⟩,
 ⟨.extract (.t 15) 1, (some 20), none, true⟩,
 ⟨.mov (.t 19), (some 6), none, true⟩,
 ⟨.mov (.t 20), (some 7), none, true⟩])
 (.ops [⟨.mov (.t 6), (some 21), none, true⟩,
 ⟨.build [(.int .i64 0), (.int .i64 0), (.str []), (.int .i64 0), .nilsl] [(0, 1, (.c (.int .i64 20))), (3, 1, (.t 21))], (some 22), none, true⟩,
 ⟨.store 5 (.t 5) (.t 22), none, none, false⟩]))
 (.seq (.ops [⟨.fieldAddr 0 (.t 4), (some 24), none, true⟩,
 ⟨.load none (.t 24), (some 25), none, false⟩,
 ⟨.bin .eql (.t 25) (.c (.int .i64 3)), (some 26), none, true⟩,
 ⟨.mov (.t 26), (some 23), none, true⟩])
 (.cond (.t 23)
 (.seq (.ops [⟨.fieldAddr 1 (.t 4), (some 27), none, true⟩,
 ⟨.load none (.t 27), (some 28), none, false⟩,
 ⟨.qcall (.f 39) [(.t 28)], (some 29), none, false⟩,
 ⟨.store 5 (.t 5) (.t 29), none, none, false⟩])
 (.ops [⟨.fieldAddr 1 (.t 5), (some 30), none, true⟩,
 ⟨.store 1 (.t 30) (.c (.int .i64 0)), none, none, false⟩]))
 (.seq (.ops [⟨.mov (.t 0), (some 32), none, true⟩,
 ⟨.call (.f 34) [(.t 32), (.c (.str [116, 114, 117, 101]))], (some 33), none, false⟩,
 ⟨.mov (.t 33), (some 31), none, true⟩])
 (.cond (.t 31)
 (.ops [⟨.build [(.int .i64 0), (.int .i64 0), (.str []), (.int .i64 0), .nilsl] [(0, 1, (.c (.int .i64 22))), (3, 1, (.c (.int .i64 1)))], (some 34), none, true⟩,
 ⟨.store 5 (.t 5) (.t 34), none, none, false⟩])
 (.seq (.ops [⟨.mov (.t 0), (some 36), none, true⟩,
 ⟨.call (.f 34) [(.t 36), (.c (.str [102, 97, 108, 115, 101]))], (some 37), none, false⟩,
 ⟨.mov (.t 37), (some 35), none, true⟩])
 (.cond (.t 35)
 (.ops [⟨.build [(.int .i64 0), (.int .i64 0), (.str []), (.int .i64 0), .nilsl] [(0, 1, (.c (.int .i64 22)))], (some 38), none, true⟩,
 ⟨.store 5 (.t 5) (.t 38), none, none, false⟩])
 (.seq (.ops [⟨.load (some 5) (.t 5), (some 10), none, false⟩,
 ⟨.store 5 (.t 2) (.t 10), none, none, false⟩,
 ⟨.mov (.c (.bool false)), (some 3), none, true⟩])
 (.ret)))))))))))
 (.seq (.ops [⟨.mov (.t 0), (some 39), none, true⟩,
 ⟨.nilCheck (.t 39), (some 40), none, true⟩,
 ⟨.fieldAddr 1 (.t 40), (some 41), none, true⟩,
 ⟨.load none (.t 41), (some 42), none, false⟩,
 ⟨.bin .add (.t 42) (.c (.int .i64 1)), (some 43), none, true⟩,
 ⟨.nilCheck (.t 39), (some 44), none, true⟩,
 ⟨.fieldAddr 1 (.t 44), (some 45), none, true⟩,
 ⟨.store 1 (.t 45) (.t 43), none, none, false⟩])
 (.seq (.ops [⟨.mov (.t 0), (some 46), none, true⟩,
 ⟨.load (some 5) (.t 5), (some 47), none, false⟩,
 ⟨.call (.f 32) [(.t 46), (.t 47)], (some 48), none, false⟩,
 ⟨.store 5 (.t 2) (.t 48), none, none, false⟩,
 ⟨.mov (.c (.bool true)), (some 3), none, true⟩])
 (.ret))))))
theorem st83p : stmOf Tryz.prog 83 p83p = some (s83p, [.cell 2 (some 5), .tmp 3], 49) := by kernel_rfl

theorem fold_ge : ∀ (l : List UInt8) (a : Nat), a ≤ l.foldl (fun n c => n * 10 + (c.toNat - 48)) a
  | [], a => Nat.le_refl _
  | c :: l, a => by
    rw [List.foldl_cons]
    have := fold_ge l (a * 10 + (c.toNat - 48))
    omega
theorem parseU_ok : ∀ (l : List UInt8) (a : Nat), l.all isDig = true → l.foldl (fun n c => n * 10 + (c.toNat - 48)) a < 9223372036854775808 → Lib.parseUintM 18446744073709551615 a l = .ok (l.foldl (fun n c => n * 10 + (c.toNat - 48)) a)
  | [], a, _, _ => rfl
  | c :: l, a, hd, hv => by
    rw [List.all_cons, Bool.and_eq_true] at hd
    rw [List.foldl_cons] at hv ⊢
    have g := fold_ge l (a * 10 + (c.toNat - 48))
    have hc := hd.1
    simp only [isDig, Bool.and_eq_true, decide_eq_true_eq] at hc
    rw [Lib.parseUintM, if_pos (by omega), if_neg (by omega), if_neg (by omega), parseU_ok l _ hd.2 hv]
theorem parseInt_c (s : List UInt8) (hd : s.all isDig = true) (hne : s ≠ []) (hl : s.length ≤ 4096) (hv : valF s < 9223372036854775808) : PCall Tryz.prog 102 [.str s, .int .i64 10, .int .i64 64] (.tuple [.int .i64 (valF s : Nat), .nilif]) := by
  have hp : Lib.parseIntB 64 s = .ok (valF s : Nat) := by
    cases s with
    | nil => exact absurd rfl hne
    | cons c r =>
      have hc := hd
      simp only [List.all_cons, isDig, Bool.and_eq_true, decide_eq_true_eq] at hc
      have n1 : ¬ c.toNat = 43 := by omega
      have n2 : ¬ c.toNat = 45 := by omega
      have hu : Lib.parseUintB 64 (c :: r) = .ok (valF (c :: r)) := by
        rw [Lib.parseUintB, if_neg (by simp)]
        exact parseU_ok (c :: r) 0 hd hv
      unfold Lib.parseIntB
      simp only [n1, n2, or_self, if_false, false_and, not_false_eq_true, true_and]
      rw [hu]
      simp only [Nat.reduceSub, Nat.reducePow]
      rw [if_neg (by omega)]
  refine PCall.of_below (by kernel_rfl) fun κ w vs hg hr _ => ?_
  obtain ⟨vl⟩ := vs
  cases hr with
  | cons r1 hr =>
    cases hr with
    | cons r2 hr =>
      cases hr with
      | cons r3 hr =>
        cases hr
        rw [rep_int_inv r2, rep_int_inv r3]
        cases r1 with
        | str _ h1 =>
        refine (Tryz.strconv_ParseInt_10_at64_ok ⟨s.toArray⟩ (by simp [ByteArray.size]; omega) _ (by simpa using hp) w).mono fun e w' ⟨e1, e2⟩ => ⟨_, e1, fun _ _ => RepL.tuple (.cons (.int _ _) (.cons .nilif .nil)), ?_⟩
        rcases e2 with e2 | ⟨t, e2⟩
        · rw [e2]; exact Go.RowKit.Below.refl _ _
        · rw [e2]; exact Lib.bytesWorld_below _ _ _
/-- What is known of words. -/
structure WOk (l : List Tok) : Prop where
  lo : LOk l
  whole : ∀ t ∈ l, t.1 = 2 → t.2.1.all isDig = true ∧ t.2.1 ≠ [] ∧ t.2.1.length ≤ 4096 ∧ valF t.2.1 < 9223372036854775808
  dot : ∀ t ∈ l, t.1 = 3 → ∃ A B, Dotted t.2.1 A B
open Classical in
def q102p : List D → Option D
  | [.str s, .int .i64 10, .int .i64 64] => if s.all isDig = true ∧ s ≠ [] ∧ s.length ≤ 4096 ∧ valF s < 9223372036854775808 then some (.tuple [.int .i64 (valF s : Nat), .nilif]) else none
  | _ => none
theorem q102p_ok (args : List D) (d : D) (h : q102p args = some d) : PCall Tryz.prog 102 args d := by
  unfold q102p at h
  split at h
  · split at h
    · rename_i c
      cases h
      exact parseInt_c _ c.1 c.2.1 c.2.2.1 c.2.2.2
    · cases h
  · cases h
open Classical in
def q39p : List D → Option D
  | [.str s] => if ∃ A B, Dotted s A B then some (.agg [.int .i64 21, .int .i64 2, .str (digF s), .int .i64 (bitsF (digF s)), .sl []]) else none
  | _ => none
theorem q39p_ok (args : List D) (d : D) (h : q39p args = some d) : PCall Tryz.prog 39 args d := by
  unfold q39p at h
  split at h
  · split at h
    · rename_i c
      cases h
      obtain ⟨A, B, c⟩ := c
      exact float_c _ A B c
    · cases h
  · cases h
def tb102p : Tab := tb86p.addQ 102 q102p
theorem tb102p_q (g : FuncId) (args : List D) : tb102p.q g args = if g = 102 then q102p args else tb86p.q g args := rfl
theorem tb102p_a : tb102p.a = tb86p.a := rfl
theorem tb102p_c : tb102p.c = tb86p.c := rfl
theorem tb102p_ok : tb102p.ok Tryz.prog := Tab.addQ_ok tb86p_ok q102p_ok
theorem tb102p_e : type_of% (And.intro (And.intro @tb102p_q (And.intro @tb102p_a @tb102p_c)) @tb86p_e) := (And.intro (And.intro @tb102p_q (And.intro @tb102p_a @tb102p_c)) @tb86p_e)

def tb39p : Tab := tb102p.addQ 39 q39p
theorem tb39p_q (g : FuncId) (args : List D) : tb39p.q g args = if g = 39 then q39p args else tb102p.q g args := rfl
theorem tb39p_a : tb39p.a = tb102p.a := rfl
theorem tb39p_c : tb39p.c = tb102p.c := rfl
theorem tb39p_ok : tb39p.ok Tryz.prog := Tab.addQ_ok tb102p_ok q39p_ok
theorem tb39p_e : type_of% (And.intro (And.intro @tb39p_q (And.intro @tb39p_a @tb39p_c)) @tb102p_e) := (And.intro (And.intro @tb39p_q (And.intro @tb39p_a @tb39p_c)) @tb102p_e)

theorem pNow_mem {l : List Tok} {s : PS} (ok : PSat l s) : pNow l s ∈ l := List.mem_of_getElem? (pNow_get ok)
theorem pStep_ok {l : List Tok} {s : PS} (hl : LOk l) (ok : PSok l s) (h : (pNow l s).1 ≠ 0) : PSok l (pStep s) := by
  have := hl.fin _ _ (pNow_get ok.at_) h
  obtain ⟨h1, h2, h3, h4, h5, h6⟩ := ok
  exact ⟨by simp only [pStep]; omega, by simp only [pStep]; omega, h3, h4, h5, h6⟩
set_option maxHeartbeats 1000000 in
theorem plain_c (l : List Tok) (hl : WOk l) (s : PS) (id : Nat) (ok : PSok l s) (K0 : Nd × Bool → PS → Prop) (E0 : Int → Int → Prop) (hw : wpR (pPlain l s) (fun x s' => PSok l s' → K0 x s') E0) : ACalls Tryz.prog 83 [.ptr id 1 0] (AHeap.emp.set id (pObj l s)) (retP (fun x : Nd × Bool => .tuple [.agg x.1.enc, .bool x.2]) l id K0 E0) := by
  refine ACalls.of_stmD tb39p_ok (dc := DTab.none) (fun _ _ => DTab.none_ok) (by kernel_rfl) st83p (by simp) ?_
  rw [vc_todo]
  have w1 : IntKind.i64.wrap (s.pos + 1) = s.pos + 1 := wrap_i64 (by have := ok.p0p; omega) (by have := ok.p1p; have := hl.lo.len; omega)
  simp (config := {maxSteps := 1000000}) only [s83p, tb39p_e, zzK, seval]
  intro i2 n1 n2
  refine ⟨l, s, id, rfl, by simp [n1, n2], ok.at_, ?_⟩
  have hmem := pNow_mem ok.at_
  have hwh := hl.whole _ hmem
  have hdt := hl.dot _ hmem
  have hst := pStep_ok hl.lo ok
  simp only [pPlain] at hw
  have hnow : ∀ x, pIs l x s = ((pNow l s).2.1 == x && ((pNow l s).1 == 5 || (pNow l s).1 == 4)) := fun _ => rfl
  generalize ht : pNow l s = t at *
  obtain ⟨kk, y, a⟩ := t
  simp only at hwh hdt hst hw hnow
  simp (config := {maxSteps := 1000000}) only [tokD, n1, n2, tb39p_e, zzK, seval]
  intro i4 m1 m2 m3 m4 i5 m5 m6 m7 m8 m9 m10
  cases c2p : (kk == 2) with
  | true =>
    rw [c2p, cond_true, wpR_bind] at hw
    have e2 : kk = 2 := by simpa using c2p
    obtain ⟨d1, d2, d3, d4⟩ := hwh e2
    have ok' := hst (by omega)
    have hq : q102p [.str y, .int .i64 10, .int .i64 64] = some (.tuple [.int .i64 (valF y : Nat), .nilif]) := if_pos ⟨d1, d2, d3, d4⟩
    simp (config := {maxSteps := 1000000}) only [c2p, hq, pObj, w1, n1, n2, m1, m2, m3, m4, m5, m6, m7, m8, m9, m10, tb39p_e, zzK, seval]
    refine .inl ⟨l, pStep s, id, .mk 20 0 [] (valF y : Nat) [], by simp only [enc_mk, encs_nil], hl.lo, by simp [pObj, pStep, n1, n2, m1, m2, m3, m4, m5, m6, m7, m8, m9, m10], ok', wpR_mono (fun n s1p k ok1 => ?_) (fun a e k s' => ?_) hw⟩
    · obtain ⟨nk, nt, ns, nm, nl⟩ := n
      simp (config := {maxSteps := 1000000}) only [enc_mk, n1, n2, m1, m2, m3, m4, m5, m6, m7, m8, m9, m10, retD_ret, leav_nil, finD, tb39p_e, zzK, seval]
      exact mid_ret (x := (.mk nk nt ns nm nl, true)) (s' := s1p) (by rw [enc_mk]) (by simp [n1, n2, m1, m2, m3, m4, m5, m6, m7, m8, m9, m10]) (k ok1)
    · simp only [panD, leav_nil, finD]
      exact mid_pan (s' := s') (by simp [n1, n2, m1, m2, m3, m4, m5, m6, m7, m8, m9, m10]) k
  | false =>
    rw [c2p, cond_false] at hw
    cases c3p : (kk == 3) with
    | true =>
      rw [c3p, cond_true, wpR_bind] at hw
      have e3 : kk = 3 := by simpa using c3p
      have hd := hdt e3
      have ok' := hst (by omega)
      have hq : q39p [.str y] = some (.agg [.int .i64 21, .int .i64 2, .str (digF y), .int .i64 (bitsF (digF y)), .sl []]) := if_pos hd
      simp (config := {maxSteps := 1000000}) only [c2p, c3p, hq, pObj, w1, n1, n2, m1, m2, m3, m4, m5, m6, m7, m8, m9, m10, tb39p_e, zzK, seval]
      refine .inl ⟨l, pStep s, id, floatN y, by simp only [floatN, enc_mk, encs_nil], hl.lo, by simp [pObj, pStep, n1, n2, m1, m2, m3, m4, m5, m6, m7, m8, m9, m10], ok', wpR_mono (fun n s1p k ok1 => ?_) (fun a e k s' => ?_) hw⟩
      · obtain ⟨nk, nt, ns, nm, nl⟩ := n
        simp (config := {maxSteps := 1000000}) only [enc_mk, n1, n2, m1, m2, m3, m4, m5, m6, m7, m8, m9, m10, retD_ret, leav_nil, finD, tb39p_e, zzK, seval]
        exact mid_ret (x := (.mk nk nt ns nm nl, true)) (s' := s1p) (by rw [enc_mk]) (by simp [n1, n2, m1, m2, m3, m4, m5, m6, m7, m8, m9, m10]) (k ok1)
      · simp only [panD, leav_nil, finD]
        exact mid_pan (s' := s') (by simp [n1, n2, m1, m2, m3, m4, m5, m6, m7, m8, m9, m10]) k
    | false =>
      rw [c3p, cond_false] at hw
      simp (config := {maxSteps := 1000000}) only [c2p, c3p, n1, n2, m1, m2, m3, m4, m5, m6, m7, m8, m9, m10, tb39p_e, zzK, seval]
      refine ⟨l, s, id, wTrue, rfl, by simp [n1, n2, m1, m2, m3, m4, m5, m6, m7, m8, m9, m10], ok.at_, ?_⟩
      cases c4p : pIs l wTrue s with
      | true =>
        rw [c4p, cond_true, wpR_bind] at hw
        have ok' := pIs_fin hl.lo ok c4p
        simp (config := {maxSteps := 1000000}) only [pObj, w1, n1, n2, m1, m2, m3, m4, m5, m6, m7, m8, m9, m10, tb39p_e, zzK, seval]
        refine .inl ⟨l, pStep s, id, .mk 22 0 [] 1 [], by simp only [enc_mk, encs_nil], hl.lo, by simp [pObj, pStep, n1, n2, m1, m2, m3, m4, m5, m6, m7, m8, m9, m10], ok', wpR_mono (fun n s1p k ok1 => ?_) (fun a e k s' => ?_) hw⟩
        · obtain ⟨nk, nt, ns, nm, nl⟩ := n
          simp (config := {maxSteps := 1000000}) only [enc_mk, n1, n2, m1, m2, m3, m4, m5, m6, m7, m8, m9, m10, retD_ret, leav_nil, finD, tb39p_e, zzK, seval]
          exact mid_ret (x := (.mk nk nt ns nm nl, true)) (s' := s1p) (by rw [enc_mk]) (by simp [n1, n2, m1, m2, m3, m4, m5, m6, m7, m8, m9, m10]) (k ok1)
        · simp only [panD, leav_nil, finD]
          exact mid_pan (s' := s') (by simp [n1, n2, m1, m2, m3, m4, m5, m6, m7, m8, m9, m10]) k
      | false =>
        rw [c4p, cond_false] at hw
        simp (config := {maxSteps := 1000000}) only [n1, n2, m1, m2, m3, m4, m5, m6, m7, m8, m9, m10, tb39p_e, zzK, seval]
        refine ⟨l, s, id, wFalse, rfl, by simp [n1, n2, m1, m2, m3, m4, m5, m6, m7, m8, m9, m10], ok.at_, ?_⟩
        cases c5p : pIs l wFalse s with
        | true =>
          rw [c5p, cond_true, wpR_bind] at hw
          have ok' := pIs_fin hl.lo ok c5p
          simp (config := {maxSteps := 1000000}) only [pObj, w1, n1, n2, m1, m2, m3, m4, m5, m6, m7, m8, m9, m10, tb39p_e, zzK, seval]
          refine .inl ⟨l, pStep s, id, .mk 22 0 [] 0 [], by simp only [enc_mk, encs_nil], hl.lo, by simp [pObj, pStep, n1, n2, m1, m2, m3, m4, m5, m6, m7, m8, m9, m10], ok', wpR_mono (fun n s1p k ok1 => ?_) (fun a e k s' => ?_) hw⟩
          · obtain ⟨nk, nt, ns, nm, nl⟩ := n
            simp (config := {maxSteps := 1000000}) only [enc_mk, n1, n2, m1, m2, m3, m4, m5, m6, m7, m8, m9, m10, retD_ret, leav_nil, finD, tb39p_e, zzK, seval]
            exact mid_ret (x := (.mk nk nt ns nm nl, true)) (s' := s1p) (by rw [enc_mk]) (by simp [n1, n2, m1, m2, m3, m4, m5, m6, m7, m8, m9, m10]) (k ok1)
          · simp only [panD, leav_nil, finD]
            exact mid_pan (s' := s') (by simp [n1, n2, m1, m2, m3, m4, m5, m6, m7, m8, m9, m10]) k
        | false =>
          rw [c5p, cond_false, wpR_ok] at hw
          simp (config := {maxSteps := 1000000}) only [n1, n2, m1, m2, m3, m4, m5, m6, m7, m8, m9, m10, retD_ret, leav_nil, finD, tb39p_e, zzK, seval]
          exact mid_ret' (x := (.mk 0 0 [] 0 [], false)) (s' := s) (by rw [enc_mk, encs_nil]) (by simp [n1, n2, m1, m2, m3, m4, m5, m6, m7, m8, m9, m10]) (hw ok)
def cPlain (args : List D) (h : AHeap) (K E : D → AHeap → Prop) : Prop := ∃ (l : List Tok) (s : PS) (id : Nat) , args = [.ptr id 1 0] ∧ WOk l ∧ cP (pPlain l) (fun x : Nd × Bool => .tuple [.agg x.1.enc, .bool x.2]) l s id h K E
theorem cPlain_mono (args : List D) (h : AHeap) (K E K' E' : D → AHeap → Prop) (hk : ∀ d h, K d h → K' d h) (he : ∀ d h, E d h → E' d h) (c : cPlain args h K E) : cPlain args h K' E' := by
  obtain ⟨l, s, id, a, b, c⟩ := c
  exact ⟨l, s, id, a, b, cP_mono hk he c⟩
theorem cPlain_ok (args : List D) (h : AHeap) (K E : D → AHeap → Prop) (c : cPlain args h K E) : ACalls Tryz.prog 83 args h (AOut.to K E) := by
  obtain ⟨l, s, id, rfl, hl, c⟩ := c
  exact cP_ok (fun ok K0 E0 hw => plain_c l hl s id  ok K0 E0 hw) c

def tb83p : Tab := tb39p.addE 83 cPlain cPlain_mono
theorem tb83p_q : tb83p.q = tb39p.q := rfl
theorem tb83p_a : tb83p.a = tb39p.a := rfl
theorem tb83p_c (g : FuncId) (args : List D) (h : AHeap) (K E : D → AHeap → Prop) : tb83p.c g args h K E = if g = 83 then cPlain args h K E else tb39p.c g args h K E := rfl
theorem tb83p_ok : tb83p.ok Tryz.prog := Tab.addE_ok tb39p_ok cPlain_ok
theorem tb83p_e : type_of% (And.intro (And.intro @tb83p_q (And.intro @tb83p_a @tb83p_c)) @tb39p_e) := (And.intro (And.intro @tb83p_q (And.intro @tb83p_a @tb83p_c)) @tb39p_e)

end
end Go.Proofs.YtpagdhbmbnoddaaGreatDoor.Zz
/- Contracts: literals with a sign; the ranks of signs. -/
namespace Go.Proofs.YtpagdhbmbnoddaaGreatDoor.Zz
noncomputable section
set_option linter.unusedVariables false
set_option linter.unusedSimpArgs false
set_option maxRecDepth 20000
def p64p : Plan := ⟨⟨[], [(1, 1), (2, 1), (4, 1)], [], [], [], []⟩, [], [], false⟩
/-- (*cupel/parse.parser).literal (1 parameters, 0 captured) -/
def s64p : Stm :=
 .seq (.ops [⟨.alloc [(.int .i64 0), (.int .i64 0), (.str []), (.int .i64 0), .nilsl], (some 2), none, false⟩])
 (.seq (.ops [⟨.mov (.t 0), (some 6), none, true⟩,
 ⟨.call (.f 60) [(.t 6), (.c (.str [45]))], (some 7), none, false⟩,
 ⟨.mov (.t 7), (some 3), none, true⟩])
 (.seq (.ops [⟨.mov (.t 0), (some 9), none, true⟩,
 ⟨.call (.f 83) [(.t 9)], (some 10), none, false⟩,
 ⟨.mov (.t 10), (some 8), none, true⟩,
 ⟨.extract (.t 8) 0, (some 11), none, true⟩,
 ⟨.extract (.t 8) 1, (some 12), none, true⟩,
 ⟨.alloc [(.int .i64 0), (.int .i64 0), (.str []), (.int .i64 0), .nilsl], (some 4), none, false⟩,
 ⟨.store 5 (.t 4) (.t 11), none, none, false⟩,
 ⟨.mov (.t 12), (some 5), none, true⟩])
 (.seq (.seq (.ops [⟨.mov (.t 5), (some 13), none, true⟩,
 ⟨.un .not (.t 13), (some 14), none, true⟩,
 ⟨.mov (.t 14), (some 15), none, true⟩,
 ⟨.mov (.t 3), (some 16), (some (15, false)), true⟩,
 ⟨.mov (.t 16), (some 17), (some (15, false)), true⟩,
 ⟨.fieldAddr 0 (.t 4), (some 18), (some (17, true)), true⟩,
 ⟨.load none (.t 18), (some 19), (some (17, true)), false⟩,
 ⟨.bin .eql (.t 19) (.c (.int .i64 22)), (some 20), (some (17, true)), true⟩,
 ⟨.pick (.t 17) (.t 20) (.c (.bool false)), (some 21), (some (15, false)), true⟩,
 ⟨.pick (.t 15) (.c (.bool true)) (.t 21), (some 22), none, true⟩])
 (.cond (.t 22)
 (.ops [⟨.mov (.t 0), (some 23), none, true⟩,
 ⟨.call (.f 35) [(.t 23), (.c (.int .i64 110))], (some 24), none, false⟩])
 (.skip)))
 (.seq (.seq (.ops [⟨.mov (.t 3), (some 25), none, true⟩,
 ⟨.mov (.t 25), (some 26), none, true⟩,
 ⟨.fieldAddr 0 (.t 4), (some 27), (some (26, true)), true⟩,
 ⟨.load none (.t 27), (some 28), (some (26, true)), false⟩,
 ⟨.bin .eql (.t 28) (.c (.int .i64 20)), (some 29), (some (26, true)), true⟩,
 ⟨.pick (.t 26) (.t 29) (.c (.bool false)), (some 30), none, true⟩])
 (.cond (.t 30)
 (.ops [⟨.fieldAddr 3 (.t 4), (some 31), none, true⟩,
 ⟨.load none (.t 31), (some 32), none, false⟩,
 ⟨.un .neg (.t 32), (some 33), none, true⟩,
 ⟨.fieldAddr 3 (.t 4), (some 34), none, true⟩,
 ⟨.store 1 (.t 34) (.t 33), none, none, false⟩])
 (.skip)))
 (.seq (.seq (.ops [⟨.mov (.t 3), (some 35), none, true⟩,
 ⟨.mov (.t 35), (some 36), none, true⟩,
 ⟨.fieldAddr 0 (.t 4), (some 37), (some (36, true)), true⟩,
 ⟨.load none (.t 37), (some 38), (some (36, true)), false⟩,
 ⟨.bin .eql (.t 38) (.c (.int .i64 21)), (some 39), (some (36, true)), true⟩,
 ⟨.pick (.t 36) (.t 39) (.c (.bool false)), (some 40), none, true⟩])
 (.cond (.t 40)
 (.ops [⟨.fieldAddr 3 (.t 4), (some 41), none, true⟩,
 ⟨.load none (.t 41), (some 42), none, false⟩,
 ⟨.conv (.intInt .u64) (.t 42), (some 43), none, true⟩,
 ⟨.qcall (.f 85) [(.t 43)], (some 44), none, false⟩,
 ⟨.un .neg (.t 44), (some 45), none, true⟩,
 ⟨.qcall (.f 84) [(.t 45)], (some 46), none, false⟩,
 ⟨.conv (.intInt .i64) (.t 46), (some 47), none, true⟩,
 ⟨.fieldAddr 3 (.t 4), (some 48), none, true⟩,
 ⟨.store 1 (.t 48) (.t 47), none, none, false⟩])
 (.skip)))
 (.seq (.ops [⟨.load (some 5) (.t 4), (some 49), none, false⟩,
 ⟨.store 5 (.t 2) (.t 49), none, none, false⟩])
 (.ret)))))))
theorem st64p : stmOf Tryz.prog 64 p64p = some (s64p, [.cell 2 (some 5)], 50) := by kernel_rfl

def p132p : Plan := ⟨⟨[], [], [], [], [], []⟩, [], [], false⟩
/-- cupel/parse.rank (1 parameters, 0 captured) -/
def s132p : Stm :=
 .seq (.ops [⟨.mov (.c (.int .i64 0)), (some 2), none, true⟩])
 (.seq (.seq (.ops [⟨.mov (.t 0), (some 3), none, true⟩])
 (.block 0 (.seq (.ops [⟨.bin .eql (.t 3) (.c (.str [124, 124])), (some 5), none, true⟩,
 ⟨.mov (.t 5), (some 4), none, true⟩])
 (.cond (.t 4)
 (.seq (.ops [⟨.mov (.c (.int .i64 1)), (some 2), none, true⟩])
 (.ret))
 (.seq (.ops [⟨.bin .eql (.t 3) (.c (.str [38, 38])), (some 7), none, true⟩,
 ⟨.mov (.t 7), (some 6), none, true⟩])
 (.cond (.t 6)
 (.seq (.ops [⟨.mov (.c (.int .i64 2)), (some 2), none, true⟩])
 (.ret))
 (.seq (.seq (.ops [⟨.bin .eql (.t 3) (.c (.str [60])), (some 9), none, true⟩,
 ⟨.mov (.t 9), (some 8), none, true⟩])
 (.cond (.t 8)
 (.skip)
 (.seq (.ops [⟨.bin .eql (.t 3) (.c (.str [60, 61])), (some 10), none, true⟩,
 ⟨.mov (.t 10), (some 8), none, true⟩])
 (.cond (.t 8)
 (.skip)
 (.seq (.ops [⟨.bin .eql (.t 3) (.c (.str [62])), (some 11), none, true⟩,
 ⟨.mov (.t 11), (some 8), none, true⟩])
 (.cond (.t 8)
 (.skip)
 (.seq (.ops [⟨.bin .eql (.t 3) (.c (.str [62, 61])), (some 12), none, true⟩,
 ⟨.mov (.t 12), (some 8), none, true⟩])
 (.cond (.t 8)
 (.skip)
 (.seq (.ops [⟨.bin .eql (.t 3) (.c (.str [61, 61])), (some 13), none, true⟩,
 ⟨.mov (.t 13), (some 8), none, true⟩])
 (.cond (.t 8)
 (.skip)
 (.ops [⟨.bin .eql (.t 3) (.c (.str [33, 61])), (some 14), none, true⟩,
 ⟨.mov (.t 14), (some 8), none, true⟩])))))))))))
 (.cond (.t 8)
 (.seq (.ops [⟨.mov (.c (.int .i64 3)), (some 2), none, true⟩])
 (.ret))
 (.seq (.seq (.ops [⟨.bin .eql (.t 3) (.c (.str [43])), (some 16), none, true⟩,
 ⟨.mov (.t 16), (some 15), none, true⟩])
 (.cond (.t 15)
 (.skip)
 (.ops [⟨.bin .eql (.t 3) (.c (.str [45])), (some 17), none, true⟩,
 ⟨.mov (.t 17), (some 15), none, true⟩])))
 (.cond (.t 15)
 (.seq (.ops [⟨.mov (.c (.int .i64 4)), (some 2), none, true⟩])
 (.ret))
 (.seq (.seq (.ops [⟨.bin .eql (.t 3) (.c (.str [42])), (some 19), none, true⟩,
 ⟨.mov (.t 19), (some 18), none, true⟩])
 (.cond (.t 18)
 (.skip)
 (.seq (.ops [⟨.bin .eql (.t 3) (.c (.str [47])), (some 20), none, true⟩,
 ⟨.mov (.t 20), (some 18), none, true⟩])
 (.cond (.t 18)
 (.skip)
 (.ops [⟨.bin .eql (.t 3) (.c (.str [37])), (some 21), none, true⟩,
 ⟨.mov (.t 21), (some 18), none, true⟩])))))
 (.cond (.t 18)
 (.seq (.ops [⟨.mov (.c (.int .i64 5)), (some 2), none, true⟩])
 (.ret))
 (.skip)))))))))))))
 (.seq (.ops [⟨.mov (.c (.int .i64 0)), (some 2), none, true⟩])
 (.ret)))
theorem st132p : stmOf Tryz.prog 132 p132p = some (s132p, [.tmp 2], 22) := by kernel_rfl

theorem rank_c (s : List UInt8) : PCall Tryz.prog 132 [.str s] (.int .i64 (rankF s)) := by
  refine PCall.run (Tab.zero_ok _) st132p (by simp) fun E => ?_
  unfold rankF
  cases c1p : (s == [124, 124])
  case true => simp (config := {maxSteps := 1000000}) only [s132p, c1p, zzK, seval]
  cases c2p : (s == [38, 38])
  case true => simp (config := {maxSteps := 1000000}) only [s132p, c1p, c2p, zzK, seval]
  cases c3p : (s == [60])
  case true => simp (config := {maxSteps := 1000000}) only [s132p, c1p, c2p, c3p, zzK, seval]
  cases c4p : (s == [60, 61])
  case true => simp (config := {maxSteps := 1000000}) only [s132p, c1p, c2p, c3p, c4p, zzK, seval]
  cases c5p : (s == [62])
  case true => simp (config := {maxSteps := 1000000}) only [s132p, c1p, c2p, c3p, c4p, c5p, zzK, seval]
  cases c6p : (s == [62, 61])
  case true => simp (config := {maxSteps := 1000000}) only [s132p, c1p, c2p, c3p, c4p, c5p, c6p, zzK, seval]
  cases c7p : (s == [61, 61])
  case true => simp (config := {maxSteps := 1000000}) only [s132p, c1p, c2p, c3p, c4p, c5p, c6p, c7p, zzK, seval]
  cases c8p : (s == [33, 61])
  case true => simp (config := {maxSteps := 1000000}) only [s132p, c1p, c2p, c3p, c4p, c5p, c6p, c7p, c8p, zzK, seval]
  cases c9p : (s == [43])
  case true => simp (config := {maxSteps := 1000000}) only [s132p, c1p, c2p, c3p, c4p, c5p, c6p, c7p, c8p, c9p, zzK, seval]
  cases d1 : (s == [45])
  case true => simp (config := {maxSteps := 1000000}) only [s132p, c1p, c2p, c3p, c4p, c5p, c6p, c7p, c8p, c9p, d1, zzK, seval]
  cases d2 : (s == [42])
  case true => simp (config := {maxSteps := 1000000}) only [s132p, c1p, c2p, c3p, c4p, c5p, c6p, c7p, c8p, c9p, d1, d2, zzK, seval]
  cases d3 : (s == [47])
  case true => simp (config := {maxSteps := 1000000}) only [s132p, c1p, c2p, c3p, c4p, c5p, c6p, c7p, c8p, c9p, d1, d2, d3, zzK, seval]
  cases d4 : (s == [37])
  all_goals simp (config := {maxSteps := 1000000}) only [s132p, c1p, c2p, c3p, c4p, c5p, c6p, c7p, c8p, c9p, d1, d2, d3, d4, zzK, seval]
def q132p : List D → Option D
  | [.str s] => some (.int .i64 (rankF s))
  | _ => none
theorem q132p_ok (args : List D) (d : D) (h : q132p args = some d) : PCall Tryz.prog 132 args d := by
  unfold q132p at h
  split at h
  · cases h; exact rank_c _
  · cases h
theorem ext84 : extOk Tryz.prog 84 "math.Float64bits" = true := by kernel_rfl
theorem ext85 : extOk Tryz.prog 85 "math.Float64frombits" = true := by kernel_rfl
def tb132p : Tab := tb83p.addQ 132 q132p
theorem tb132p_q (g : FuncId) (args : List D) : tb132p.q g args = if g = 132 then q132p args else tb83p.q g args := rfl
theorem tb132p_a : tb132p.a = tb83p.a := rfl
theorem tb132p_c : tb132p.c = tb83p.c := rfl
theorem tb132p_ok : tb132p.ok Tryz.prog := Tab.addQ_ok tb83p_ok q132p_ok
theorem tb132p_e : type_of% (And.intro (And.intro @tb132p_q (And.intro @tb132p_a @tb132p_c)) @tb83p_e) := (And.intro (And.intro @tb132p_q (And.intro @tb132p_a @tb132p_c)) @tb83p_e)

def tb84p : Tab := tb132p.addQ 84 xBits
theorem tb84p_q (g : FuncId) (args : List D) : tb84p.q g args = if g = 84 then xBits args else tb132p.q g args := rfl
theorem tb84p_a : tb84p.a = tb132p.a := rfl
theorem tb84p_c : tb84p.c = tb132p.c := rfl
theorem tb84p_ok : tb84p.ok Tryz.prog := Tab.addX_ok tb132p_ok (xBits_ok ext84)
theorem tb84p_e : type_of% (And.intro (And.intro @tb84p_q (And.intro @tb84p_a @tb84p_c)) @tb132p_e) := (And.intro (And.intro @tb84p_q (And.intro @tb84p_a @tb84p_c)) @tb132p_e)

def tb85p : Tab := tb84p.addQ 85 xFrom
theorem tb85p_q (g : FuncId) (args : List D) : tb85p.q g args = if g = 85 then xFrom args else tb84p.q g args := rfl
theorem tb85p_a : tb85p.a = tb84p.a := rfl
theorem tb85p_c : tb85p.c = tb84p.c := rfl
theorem tb85p_ok : tb85p.ok Tryz.prog := Tab.addX_ok tb84p_ok (xFrom_ok ext85)
theorem tb85p_e : type_of% (And.intro (And.intro @tb85p_q (And.intro @tb85p_a @tb85p_c)) @tb84p_e) := (And.intro (And.intro @tb85p_q (And.intro @tb85p_a @tb85p_c)) @tb84p_e)

theorem lit_c (l : List Tok) (hl : WOk l) (s : PS) (id : Nat) (ok : PSok l s) (K0 : Nd → PS → Prop) (E0 : Int → Int → Prop) (hw : wpR (pLit l s) (fun x s' => PSok l s' → K0 x s') E0) : ACalls Tryz.prog 64 [.ptr id 1 0] (AHeap.emp.set id (pObj l s)) (retP (fun n : Nd => .agg n.enc) l id K0 E0) := by
  refine ACalls.of_stmD tb85p_ok (dc := DTab.none) (fun _ _ => DTab.none_ok) (by kernel_rfl) st64p (by simp) ?_
  rw [vc_todo]
  unfold pLit at hw
  rw [wpR_bind] at hw
  simp (config := {maxSteps := 1000000}) only [s64p, tb85p_e, zzK, seval]
  intro i2 n1 n2
  refine ⟨l, s, id, [45], rfl, hl.lo, by simp [n1, n2], ok, wpR_mono (fun mi s1p k ok1 => ?_) (fun a e k s' => ?_) hw⟩
  case refine_2 =>
    simp only [panD, leav_nil, finD]
    exact mid_pan (s' := s') (by simp [n1, n2]) k
  rw [wpR_bind] at k
  simp (config := {maxSteps := 1000000}) only [n1, n2, tb85p_e, zzK, seval]
  refine ⟨l, s1p, id, rfl, hl, by simp [n1, n2], ok1, wpR_mono (fun x s2p k ok2 => ?_) (fun a e k s' => ?_) k⟩
  case refine_2 =>
    simp only [panD, leav_nil, finD]
    exact mid_pan (s' := s') (by simp [n1, n2]) k
  obtain ⟨⟨nk, nt, ns, nm, nl⟩, b⟩ := x
  simp (config := {maxSteps := 1000000}) only [enc_mk, n1, n2, tb85p_e, zzK, seval]
  intro i4 m1 m2 m3 m4
  simp only [Nd.kind, Nd.setN, Nd.num] at k
  cases b with
  | false =>
    simp only [Bool.not_false, Bool.true_or, cond_true] at k
    simp (config := {maxSteps := 1000000}) only [n1, n2, m1, m2, m3, m4, Bool.not_false, tb85p_e, zzK, seval]
    refine ⟨l, s2p, id, 110, rfl, by simp [n1, n2, m1, m2, m3, m4], ok2.at_, ?_⟩
    simp only [panD, leav_nil, finD]
    exact mid_pan (s' := s2p) (by simp [n1, n2, m1, m2, m3, m4]) k
  | true =>
    cases mi with
    | false =>
      simp only [Bool.not_true, Bool.false_and, Bool.or_self, cond_false, wpR_ok] at k
      simp (config := {maxSteps := 1000000}) only [n1, n2, m1, m2, m3, m4, Bool.not_true, retD_ret, leav_nil, finD, tb85p_e, zzK, seval]
      exact mid_ret (x := .mk nk nt ns nm nl) (s' := s2p) (by rw [enc_mk]) (by simp [n1, n2, m1, m2, m3, m4]) (k ok2)
    | true =>
      simp only [Bool.not_true, Bool.true_and, Bool.false_or] at k
      cases c2p : (nk == 22) with
      | true =>
        rw [c2p, cond_true] at k
        simp (config := {maxSteps := 1000000}) only [c2p, n1, n2, m1, m2, m3, m4, Bool.not_true, tb85p_e, zzK, seval]
        refine ⟨l, s2p, id, 110, rfl, by simp [n1, n2, m1, m2, m3, m4], ok2.at_, ?_⟩
        simp only [panD, leav_nil, finD]
        exact mid_pan (s' := s2p) (by simp [n1, n2, m1, m2, m3, m4]) k
      | false =>
        rw [c2p, cond_false, wpR_ok] at k
        have k := k ok2
        cases c3p : (nk == 20) with
        | true =>
          have c4p : (nk == 21) = false := by simp at c3p ⊢; omega
          rw [c3p, cond_true] at k
          simp (config := {maxSteps := 1000000}) only [c2p, c3p, c4p, n1, n2, m1, m2, m3, m4, Bool.not_true, retD_ret, leav_nil, finD, tb85p_e, zzK, seval]
          exact mid_ret (x := .mk nk nt ns (IntKind.i64.wrap (0 - nm)) nl) (s' := s2p) (by rw [enc_mk]) (by simp [n1, n2, m1, m2, m3, m4]) k
        | false =>
          rw [c3p, cond_false] at k
          cases c4p : (nk == 21) with
          | true =>
            rw [c4p, cond_true] at k
            simp (config := {maxSteps := 1000000}) only [c2p, c3p, c4p, n1, n2, m1, m2, m3, m4, Bool.not_true, xBits, xFrom, retD_ret, leav_nil, finD, tb85p_e, zzK, seval]
            exact mid_ret (x := .mk nk nt ns (negB nm) nl) (s' := s2p) (by rw [enc_mk]; rfl) (by simp [n1, n2, m1, m2, m3, m4]) k
          | false =>
            rw [c4p, cond_false] at k
            simp (config := {maxSteps := 1000000}) only [c2p, c3p, c4p, n1, n2, m1, m2, m3, m4, Bool.not_true, retD_ret, leav_nil, finD, tb85p_e, zzK, seval]
            exact mid_ret (x := .mk nk nt ns nm nl) (s' := s2p) (by rw [enc_mk]) (by simp [n1, n2, m1, m2, m3, m4]) k
def cLit (args : List D) (h : AHeap) (K E : D → AHeap → Prop) : Prop := ∃ (l : List Tok) (s : PS) (id : Nat) , args = [.ptr id 1 0] ∧ WOk l ∧ cP (pLit l) (fun n : Nd => .agg n.enc) l s id h K E
theorem cLit_mono (args : List D) (h : AHeap) (K E K' E' : D → AHeap → Prop) (hk : ∀ d h, K d h → K' d h) (he : ∀ d h, E d h → E' d h) (c : cLit args h K E) : cLit args h K' E' := by
  obtain ⟨l, s, id, a, b, c⟩ := c
  exact ⟨l, s, id, a, b, cP_mono hk he c⟩
theorem cLit_ok (args : List D) (h : AHeap) (K E : D → AHeap → Prop) (c : cLit args h K E) : ACalls Tryz.prog 64 args h (AOut.to K E) := by
  obtain ⟨l, s, id, rfl, hl, c⟩ := c
  exact cP_ok (fun ok K0 E0 hw => lit_c l hl s id  ok K0 E0 hw) c

def tb64p : Tab := tb85p.addE 64 cLit cLit_mono
theorem tb64p_q : tb64p.q = tb85p.q := rfl
theorem tb64p_a : tb64p.a = tb85p.a := rfl
theorem tb64p_c (g : FuncId) (args : List D) (h : AHeap) (K E : D → AHeap → Prop) : tb64p.c g args h K E = if g = 64 then cLit args h K E else tb85p.c g args h K E := rfl
theorem tb64p_ok : tb64p.ok Tryz.prog := Tab.addE_ok tb85p_ok cLit_ok
theorem tb64p_e : type_of% (And.intro (And.intro @tb64p_q (And.intro @tb64p_a @tb64p_c)) @tb85p_e) := (And.intro (And.intro @tb64p_q (And.intro @tb64p_a @tb64p_c)) @tb85p_e)

end
end Go.Proofs.YtpagdhbmbnoddaaGreatDoor.Zz
