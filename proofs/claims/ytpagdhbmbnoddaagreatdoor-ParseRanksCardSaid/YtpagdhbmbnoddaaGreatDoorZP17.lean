/- Contracts: types, nodes, depth. -/
import Derived.Test.YtpagdhbmbnoddaaGreatDoorZP1
set_option linter.unnecessarySimpa false
namespace Go.Proofs.YtpagdhbmbnoddaaGreatDoor.Zz
noncomputable section
set_option linter.unusedVariables false
set_option linter.unusedSimpArgs false
set_option maxRecDepth 20000
def p32p : Plan := ⟨⟨[], [(3, 1)], [], [], [], []⟩, [], [], false⟩
/-- (*cupel/parse.parser).node (2 parameters, 0 captured) -/
def s32p : Stm :=
 .seq (.ops [⟨.box (.t 1), (some 3), none, false⟩,
 ⟨.alloc [(.int .i64 0), (.int .i64 0), (.str []), (.int .i64 0), .nilsl], (some 4), none, false⟩])
 (.seq (.seq (.ops [⟨.mov (.t 0), (some 5), none, true⟩,
 ⟨.nilCheck (.t 5), (some 6), none, true⟩,
 ⟨.fieldAddr 2 (.t 6), (some 7), none, true⟩,
 ⟨.load none (.t 7), (some 8), none, false⟩,
 ⟨.bin .add (.t 8) (.c (.int .i64 1)), (some 9), none, true⟩,
 ⟨.nilCheck (.t 5), (some 10), none, true⟩,
 ⟨.fieldAddr 2 (.t 10), (some 11), none, true⟩,
 ⟨.store 1 (.t 11) (.t 9), none, none, false⟩])
 (.seq (.ops [⟨.mov (.t 0), (some 12), none, true⟩,
 ⟨.nilCheck (.t 12), (some 13), none, true⟩,
 ⟨.fieldAddr 2 (.t 13), (some 14), none, true⟩,
 ⟨.load none (.t 14), (some 15), none, false⟩,
 ⟨.bin .gtr (.t 15) (.c (.int .i64 2000)), (some 16), none, true⟩])
 (.cond (.t 16)
 (.ops [⟨.mov (.t 0), (some 17), none, true⟩,
 ⟨.call (.f 35) [(.t 17), (.c (.int .i64 3))], (some 18), none, false⟩])
 (.skip))))
 (.seq (.ops [⟨.load (some 5) (.t 3), (some 19), none, false⟩,
 ⟨.store 5 (.t 4) (.t 19), none, none, false⟩])
 (.ret)))
theorem st32p : stmOf Tryz.prog 32 p32p = some (s32p, [.cell 4 (some 5)], 20) := by kernel_rfl

def p45p : Plan := ⟨⟨[], [], [], [], [], []⟩, [], [], false⟩
/-- cupel/ast.TypeName (1 parameters, 0 captured) -/
def s45p : Stm :=
 .seq (.ops [⟨.mov (.c (.str [])), (some 2), none, true⟩])
 (.seq (.seq (.ops [⟨.mov (.t 0), (some 3), none, true⟩])
 (.block 0 (.seq (.ops [⟨.bin .eql (.t 3) (.c (.int .i64 1)), (some 5), none, true⟩,
 ⟨.mov (.t 5), (some 4), none, true⟩])
 (.cond (.t 4)
 (.seq (.ops [⟨.mov (.c (.str [105, 110, 116])), (some 2), none, true⟩])
 (.ret))
 (.seq (.ops [⟨.bin .eql (.t 3) (.c (.int .i64 2)), (some 7), none, true⟩,
 ⟨.mov (.t 7), (some 6), none, true⟩])
 (.cond (.t 6)
 (.seq (.ops [⟨.mov (.c (.str [102, 108, 111, 97, 116])), (some 2), none, true⟩])
 (.ret))
 (.seq (.ops [⟨.bin .eql (.t 3) (.c (.int .i64 3)), (some 9), none, true⟩,
 ⟨.mov (.t 9), (some 8), none, true⟩])
 (.cond (.t 8)
 (.seq (.ops [⟨.mov (.c (.str [98, 111, 111, 108])), (some 2), none, true⟩])
 (.ret))
 (.skip)))))))))
 (.seq (.ops [⟨.mov (.c (.str [])), (some 2), none, true⟩])
 (.ret)))
theorem st45p : stmOf Tryz.prog 45 p45p = some (s45p, [.tmp 2], 10) := by kernel_rfl

def p62p : Plan := ⟨⟨[], [(4, 3), (6, 1)], [], [], [], []⟩, [], [], false⟩
/-- (*cupel/parse.parser).typ (1 parameters, 0 captured) -/
def s62p : Stm :=
 .seq (.ops [⟨.mov (.c (.int .i64 0)), (some 2), none, true⟩])
 (.seq (.seq (.ops [⟨.mov (.c (.int .i64 1)), (some 3), none, true⟩])
 (.block 0 (.loop (.seq (.seq (.ops [⟨.mov (.t 3), (some 4), none, true⟩,
 ⟨.bin .leq (.t 4) (.c (.int .i64 3)), (some 5), none, true⟩])
 (.cond (.t 5)
 (.skip)
 (.exit 0)))
 (.seq (.block 1 (.seq (.ops [⟨.mov (.t 0), (some 8), none, true⟩,
 ⟨.mov (.t 3), (some 9), none, true⟩,
 ⟨.qcall (.f 45) [(.t 9)], (some 10), none, false⟩,
 ⟨.call (.f 60) [(.t 8), (.t 10)], (some 11), none, false⟩])
 (.cond (.t 11)
 (.seq (.ops [⟨.mov (.t 3), (some 12), none, true⟩,
 ⟨.mov (.t 12), (some 2), none, true⟩])
 (.ret))
 (.skip))))
 (.ops [⟨.mov (.t 3), (some 6), none, true⟩,
 ⟨.bin .add (.t 6) (.c (.int .i64 1)), (some 7), none, true⟩,
 ⟨.mov (.t 7), (some 3), none, true⟩]))))))
 (.seq (.ops [⟨.mov (.t 0), (some 13), none, true⟩,
 ⟨.call (.f 35) [(.t 13), (.c (.int .i64 110))], (some 14), none, false⟩])
 (.seq (.ops [⟨.mov (.c (.int .i64 0)), (some 2), none, true⟩])
 (.ret))))
theorem st62p : stmOf Tryz.prog 62 p62p = some (s62p, [.tmp 2], 15) := by kernel_rfl

def p86p : Plan := ⟨⟨[], [(3, 1)], [], [], [], []⟩, [], [], false⟩
/-- (*cupel/parse.parser).in (1 parameters, 0 captured) -/
def s86p : Stm :=
 .seq (.ops [⟨.box (.t 0), (some 1), none, false⟩,
 ⟨.mov (.c .nilfunc), (some 2), none, true⟩])
 (.seq (.seq (.ops [⟨.load none (.t 1), (some 3), none, false⟩,
 ⟨.nilCheck (.t 3), (some 4), none, true⟩,
 ⟨.fieldAddr 3 (.t 4), (some 5), none, true⟩,
 ⟨.load none (.t 5), (some 6), none, false⟩,
 ⟨.bin .add (.t 6) (.c (.int .i64 1)), (some 7), none, true⟩,
 ⟨.nilCheck (.t 3), (some 8), none, true⟩,
 ⟨.fieldAddr 3 (.t 8), (some 9), none, true⟩,
 ⟨.store 1 (.t 9) (.t 7), none, none, false⟩])
 (.seq (.ops [⟨.load none (.t 1), (some 10), none, false⟩,
 ⟨.nilCheck (.t 10), (some 11), none, true⟩,
 ⟨.fieldAddr 3 (.t 11), (some 12), none, true⟩,
 ⟨.load none (.t 12), (some 13), none, false⟩,
 ⟨.bin .gtr (.t 13) (.c (.int .i64 40)), (some 14), none, true⟩])
 (.cond (.t 14)
 (.ops [⟨.load none (.t 1), (some 15), none, false⟩,
 ⟨.call (.f 35) [(.t 15), (.c (.int .i64 3))], (some 16), none, false⟩])
 (.skip))))
 (.seq (.ops [⟨.mkFunc (.func 103) [] [(.t 1)], (some 17), none, true⟩,
 ⟨.mov (.t 17), (some 2), none, true⟩])
 (.ret)))
theorem st86p : stmOf Tryz.prog 86 p86p = some (s86p, [.tmp 2], 18) := by kernel_rfl

def p103p : Plan := ⟨⟨[], [], [], [], [], []⟩, [], [], false⟩
/-- (*cupel/parse.parser).in$1 (0 parameters, 1 captured) -/
def s103p : Stm :=
 .ops [⟨.load none (.t 0), (some 1), none, false⟩,
 ⟨.nilCheck (.t 1), (some 2), none, true⟩,
 ⟨.fieldAddr 3 (.t 2), (some 3), none, true⟩,
 ⟨.load none (.t 3), (some 4), none, false⟩,
 ⟨.bin .sub (.t 4) (.c (.int .i64 1)), (some 5), none, true⟩,
 ⟨.nilCheck (.t 1), (some 6), none, true⟩,
 ⟨.fieldAddr 3 (.t 6), (some 7), none, true⟩,
 ⟨.store 1 (.t 7) (.t 5), none, none, false⟩]
theorem st103p : stmOf Tryz.prog 103 p103p = some (s103p, [], 8) := by kernel_rfl

def typeN (t : Int) : List UInt8 := bif t == 1 then wInt else bif t == 2 then wFloat else bif t == 3 then wBool else []
theorem typeName_c (t : Int) : PCall Tryz.prog 45 [.int .i64 t] (.str (typeN t)) := by
  refine PCall.run (Tab.zero_ok _) st45p (by simp) fun E => ?_
  unfold typeN
  cases c1p : (t == 1) <;> cases c2p : (t == 2) <;> cases c3p : (t == 3)
  all_goals simp (config := {maxSteps := 1000000}) only [s45p, c1p, c2p, c3p, wInt, wFloat, wBool, zzK, seval]
def q45p : List D → Option D
  | [.int .i64 t] => some (.str (typeN t))
  | _ => none
theorem q45p_ok (args : List D) (d : D) (h : q45p args = some d) : PCall Tryz.prog 45 args d := by
  unfold q45p at h
  split at h
  · cases h; exact typeName_c _
  · cases h
def tb45p : Tab := tb61p.addQ 45 q45p
theorem tb45p_q (g : FuncId) (args : List D) : tb45p.q g args = if g = 45 then q45p args else tb61p.q g args := rfl
theorem tb45p_a : tb45p.a = tb61p.a := rfl
theorem tb45p_c : tb45p.c = tb61p.c := rfl
theorem tb45p_ok : tb45p.ok Tryz.prog := Tab.addQ_ok tb61p_ok q45p_ok
theorem tb45p_e : type_of% (And.intro (And.intro @tb45p_q (And.intro @tb45p_a @tb45p_c)) @tb61p_e) := (And.intro (And.intro @tb45p_q (And.intro @tb45p_a @tb45p_c)) @tb61p_e)

theorem typ_c (l : List Tok) (hl : LOk l) (s : PS) (id : Nat) (ok : PSok l s) (K0 : Int → PS → Prop) (E0 : Int → Int → Prop) (hw : wpR (pTyp l s) (fun x s' => PSok l s' → K0 x s') E0) : ACalls Tryz.prog 62 [.ptr id 1 0] (AHeap.emp.set id (pObj l s)) (retP (fun t => D.int .i64 t) l id K0 E0) := by
  refine ACalls.of_stmD tb45p_ok (dc := DTab.none) (fun _ _ => DTab.none_ok) (by kernel_rfl) st62p (by simp) ?_
  rw [vc_todo]
  simp (config := {maxSteps := 1000000}) only [s62p, tb45p_e, zzK, seval]
  refine run_loop (X := Nat) (fun i => [(0, .ptr id 1 0), (3, .int .i64 i)]) (fun _ => AHeap.emp.set id (pObj l s)) (fun i => 4 - i) (fun i => 1 ≤ i ∧ i ≤ 4 ∧ ∀ j : Nat, 1 ≤ j → j < i → pIs l (typeN j) s = false) 1 ⟨by omega, by omega, fun j h1 h2 => by omega⟩ (by simp only [zzK, seval]) (AHeap.sub_refl _) ?_
  rintro i Q ⟨i1, i2, i3⟩ hQ
  have hstep : ∀ (hi : i ≤ 3) (b : Bool), pIs l (typeN i) s = b → (b = true → wpR (pTyp l s) (fun x s' => PSok l s' → K0 x s') E0 → K0 i (pStep s)) := fun hi b hb e hw => by
    subst e
    have ok' := pIs_fin hl ok hb
    have e1 : 1 < i → pIs l wInt s = false := fun h => i3 1 (by omega) h
    have e2 : 2 < i → pIs l wFloat s = false := fun h => i3 2 (by omega) h
    unfold pTyp at hw
    rcases (by omega : i = 1 ∨ i = 2 ∨ i = 3) with rfl | rfl | rfl
    · have hb : pIs l wInt s = true := hb
      rw [hb] at hw; exact hw ok'
    · have hb : pIs l wFloat s = true := hb
      rw [e1 (by omega), hb] at hw; exact hw ok'
    · have hb : pIs l wBool s = true := hb
      rw [e1 (by omega), e2 (by omega), hb] at hw; exact hw ok'
  by_cases c0p : i ≤ 3
  · have g : ((i : Int) ≤ 3) = True := eq_true (by omega)
    have hq : q45p [.int .i64 i] = some (.str (typeN i)) := rfl
    have wi : IntKind.i64.wrap ((i : Int) + 1) = ((i + 1 : Nat) : Int) := wrap_succ (by omega)
    simp (config := {maxSteps := 1000000}) only [g, hq, tb45p_e, zzK, seval]
    refine ⟨l, s, id, typeN i, rfl, hl, by simp, ok, ?_⟩
    unfold pTake
    cases c : pIs l (typeN i) s with
    | true =>
      rw [cond_true, wpR_ok]
      intro ok'
      simp (config := {maxSteps := 1000000}) only [retD_ret, leav_nil, finD, tb45p_e, zzK, seval]
      exact mid_ret (x := (i : Int)) (s' := pStep s) rfl (by simp) (hstep c0p true c rfl hw)
    | false =>
      rw [cond_false, wpR_ok]
      intro _
      simp (config := {maxSteps := 1000000}) only [wi, tb45p_e, zzK, seval]
      refine hQ (i + 1) _ _ ⟨by omega, by omega, fun j h1 h2 => ?_⟩ (by simp only [zzK, seval]) ?_ (by omega)
      · by_cases e : j = i
        · subst e; exact c
        · exact i3 j h1 (by omega)
      · exact AHeap.sub_refl _
  · have e0 : i = 4 := by omega
    subst e0
    have e1 : pIs l wInt s = false := i3 1 (by omega) (by omega)
    have e2 : pIs l wFloat s = false := i3 2 (by omega) (by omega)
    have e3 : pIs l wBool s = false := i3 3 (by omega) (by omega)
    simp (config := {maxSteps := 1000000}) only [tb45p_e, zzK, seval]
    refine ⟨l, s, id, 110, rfl, by simp, ok.at_, ?_⟩
    unfold pTyp at hw
    rw [e1, e2, e3] at hw
    simp only [panD, leav_nil, finD]
    exact mid_pan (s' := s) (by simp) hw
def cTyp (args : List D) (h : AHeap) (K E : D → AHeap → Prop) : Prop := ∃ (l : List Tok) (s : PS) (id : Nat) , args = [.ptr id 1 0] ∧ LOk l ∧ cP (pTyp l) (fun t => D.int .i64 t) l s id h K E
theorem cTyp_mono (args : List D) (h : AHeap) (K E K' E' : D → AHeap → Prop) (hk : ∀ d h, K d h → K' d h) (he : ∀ d h, E d h → E' d h) (c : cTyp args h K E) : cTyp args h K' E' := by
  obtain ⟨l, s, id, a, b, c⟩ := c
  exact ⟨l, s, id, a, b, cP_mono hk he c⟩
theorem cTyp_ok (args : List D) (h : AHeap) (K E : D → AHeap → Prop) (c : cTyp args h K E) : ACalls Tryz.prog 62 args h (AOut.to K E) := by
  obtain ⟨l, s, id, rfl, hl, c⟩ := c
  exact cP_ok (fun ok K0 E0 hw => typ_c l hl s id  ok K0 E0 hw) c

def tb62p : Tab := tb45p.addE 62 cTyp cTyp_mono
theorem tb62p_q : tb62p.q = tb45p.q := rfl
theorem tb62p_a : tb62p.a = tb45p.a := rfl
theorem tb62p_c (g : FuncId) (args : List D) (h : AHeap) (K E : D → AHeap → Prop) : tb62p.c g args h K E = if g = 62 then cTyp args h K E else tb45p.c g args h K E := rfl
theorem tb62p_ok : tb62p.ok Tryz.prog := Tab.addE_ok tb45p_ok cTyp_ok
theorem tb62p_e : type_of% (And.intro (And.intro @tb62p_q (And.intro @tb62p_a @tb62p_c)) @tb45p_e) := (And.intro (And.intro @tb62p_q (And.intro @tb62p_a @tb62p_c)) @tb45p_e)

theorem node_c (l : List Tok) (hl : LOk l) (s : PS) (id : Nat) (n : Nd) (ok : PSok l s) (K0 : Nd → PS → Prop) (E0 : Int → Int → Prop) (hw : wpR (pNode l n s) (fun x s' => PSok l s' → K0 x s') E0) : ACalls Tryz.prog 32 [.ptr id 1 0, .agg n.enc] (AHeap.emp.set id (pObj l s)) (retP (fun n => .agg n.enc) l id K0 E0) := by
  refine ACalls.of_stmD tb62p_ok (dc := DTab.none) (fun _ _ => DTab.none_ok) (by kernel_rfl) st32p (by simp) ?_
  rw [vc_todo]
  have w1 : IntKind.i64.wrap (s.nods + 1) = s.nods + 1 := wrap_i64 (by have := ok.n0; omega) (by have := ok.n1; omega)
  unfold pNode at hw
  obtain ⟨nk, nt, ns, nm, nl⟩ := n
  rw [enc_mk]
  simp (config := {maxSteps := 1000000}) only [s32p, pObj, tb62p_e, zzK, seval]
  intro i3 n1 n2 i4 n3 n4 n5 n6
  by_cases c : s.nods + 1 > 2000
  · have g : (s.nods + 1 > 2000) = True := eq_true c
    rw [if_pos c] at hw
    simp (config := {maxSteps := 1000000}) only [g, w1, n1, n2, n3, n4, n5, n6, tb62p_e, zzK, seval]
    refine ⟨l, { s with nods := s.nods + 1 }, id, 3, rfl, by simp [n1, n2, n3, n4, n5, n6, pObj], ok.at_, ?_⟩
    simp only [panD, leav_nil, finD]
    exact mid_pan (s' := { s with nods := s.nods + 1 }) (by simp [n1, n2, n3, n4, n5, n6, pObj]) hw
  · have g : (s.nods + 1 > 2000) = False := eq_false c
    rw [if_neg c] at hw
    simp (config := {maxSteps := 1000000}) only [g, w1, n1, n2, n3, n4, n5, n6, retD_ret, leav_nil, finD, tb62p_e, zzK, seval]
    have ok' : PSok l { s with nods := s.nods + 1 } := by
      obtain ⟨h1, h2, h3, h4, h5, h6⟩ := ok
      exact ⟨h1, h2, by simp only; omega, by simp only; omega, h5, h6⟩
    exact mid_ret (x := .mk nk nt ns nm nl) (s' := { s with nods := s.nods + 1 }) (by rw [enc_mk]) (by simp [n1, n2, n3, n4, n5, n6, pObj]) (hw ok')
def cNode (args : List D) (h : AHeap) (K E : D → AHeap → Prop) : Prop := ∃ (l : List Tok) (s : PS) (id : Nat) (n : Nd), args = [.ptr id 1 0, .agg n.enc] ∧ LOk l ∧ cP (pNode l n) (fun n => .agg n.enc) l s id h K E
theorem cNode_mono (args : List D) (h : AHeap) (K E K' E' : D → AHeap → Prop) (hk : ∀ d h, K d h → K' d h) (he : ∀ d h, E d h → E' d h) (c : cNode args h K E) : cNode args h K' E' := by
  obtain ⟨l, s, id, n, a, b, c⟩ := c
  exact ⟨l, s, id, n, a, b, cP_mono hk he c⟩
theorem cNode_ok (args : List D) (h : AHeap) (K E : D → AHeap → Prop) (c : cNode args h K E) : ACalls Tryz.prog 32 args h (AOut.to K E) := by
  obtain ⟨l, s, id, n, rfl, hl, c⟩ := c
  exact cP_ok (fun ok K0 E0 hw => node_c l hl s id n ok K0 E0 hw) c

/-- A node that has no kids at all yet. -/
def encZ : Nd → List D
  | .mk k t s n _ => [.int .i64 k, .int .i64 t, .str s, .int .i64 n, .nilsl]
theorem nodeZ_c (l : List Tok) (hl : LOk l) (s : PS) (id : Nat) (n : Nd) (ok : PSok l s) (K0 : Nd → PS → Prop) (E0 : Int → Int → Prop) (hw : wpR (pNode l n s) (fun x s' => PSok l s' → K0 x s') E0) : ACalls Tryz.prog 32 [.ptr id 1 0, .agg (encZ n)] (AHeap.emp.set id (pObj l s)) (retP (fun n => .agg (encZ n)) l id K0 E0) := by
  refine ACalls.of_stmD tb62p_ok (dc := DTab.none) (fun _ _ => DTab.none_ok) (by kernel_rfl) st32p (by simp) ?_
  rw [vc_todo]
  have w1 : IntKind.i64.wrap (s.nods + 1) = s.nods + 1 := wrap_i64 (by have := ok.n0; omega) (by have := ok.n1; omega)
  unfold pNode at hw
  obtain ⟨nk, nt, ns, nm, nl⟩ := n
  rw [encZ]
  simp (config := {maxSteps := 1000000}) only [s32p, pObj, tb62p_e, zzK, seval]
  intro i3 n1 n2 i4 n3 n4 n5 n6
  by_cases c : s.nods + 1 > 2000
  · have g : (s.nods + 1 > 2000) = True := eq_true c
    rw [if_pos c] at hw
    simp (config := {maxSteps := 1000000}) only [g, w1, n1, n2, n3, n4, n5, n6, tb62p_e, zzK, seval]
    refine ⟨l, { s with nods := s.nods + 1 }, id, 3, rfl, by simp [n1, n2, n3, n4, n5, n6, pObj], ok.at_, ?_⟩
    simp only [panD, leav_nil, finD]
    exact mid_pan (s' := { s with nods := s.nods + 1 }) (by simp [n1, n2, n3, n4, n5, n6, pObj]) hw
  · have g : (s.nods + 1 > 2000) = False := eq_false c
    rw [if_neg c] at hw
    simp (config := {maxSteps := 1000000}) only [g, w1, n1, n2, n3, n4, n5, n6, retD_ret, leav_nil, finD, tb62p_e, zzK, seval]
    have ok' : PSok l { s with nods := s.nods + 1 } := by
      obtain ⟨h1, h2, h3, h4, h5, h6⟩ := ok
      exact ⟨h1, h2, by simp only; omega, by simp only; omega, h5, h6⟩
    exact mid_ret (x := .mk nk nt ns nm nl) (s' := { s with nods := s.nods + 1 }) rfl (by simp [n1, n2, n3, n4, n5, n6, pObj]) (hw ok')
def cNodeZ (args : List D) (h : AHeap) (K E : D → AHeap → Prop) : Prop := ∃ (l : List Tok) (s : PS) (id : Nat) (n : Nd), args = [.ptr id 1 0, .agg (encZ n)] ∧ LOk l ∧ cP (pNode l n) (fun n => .agg (encZ n)) l s id h K E
theorem cNodeZ_mono (args : List D) (h : AHeap) (K E K' E' : D → AHeap → Prop) (hk : ∀ d h, K d h → K' d h) (he : ∀ d h, E d h → E' d h) (c : cNodeZ args h K E) : cNodeZ args h K' E' := by
  obtain ⟨l, s, id, n, a, b, c⟩ := c
  exact ⟨l, s, id, n, a, b, cP_mono hk he c⟩
theorem cNodeZ_ok (args : List D) (h : AHeap) (K E : D → AHeap → Prop) (c : cNodeZ args h K E) : ACalls Tryz.prog 32 args h (AOut.to K E) := by
  obtain ⟨l, s, id, n, rfl, hl, c⟩ := c
  exact cP_ok (fun ok K0 E0 hw => nodeZ_c l hl s id n ok K0 E0 hw) c

def cNodeA (args : List D) (h : AHeap) (K E : D → AHeap → Prop) : Prop := cNode args h K E ∨ cNodeZ args h K E
theorem cNodeA_mono (args : List D) (h : AHeap) (K E K' E' : D → AHeap → Prop) (hk : ∀ d h, K d h → K' d h) (he : ∀ d h, E d h → E' d h) (c : cNodeA args h K E) : cNodeA args h K' E' := c.elim (fun c => .inl (cNode_mono _ _ _ _ _ _ hk he c)) fun c => .inr (cNodeZ_mono _ _ _ _ _ _ hk he c)
theorem cNodeA_ok (args : List D) (h : AHeap) (K E : D → AHeap → Prop) (c : cNodeA args h K E) : ACalls Tryz.prog 32 args h (AOut.to K E) := c.elim (cNode_ok _ _ _ _) (cNodeZ_ok _ _ _ _)
def tb32p : Tab := tb62p.addE 32 cNodeA cNodeA_mono
theorem tb32p_q : tb32p.q = tb62p.q := rfl
theorem tb32p_a : tb32p.a = tb62p.a := rfl
theorem tb32p_c (g : FuncId) (args : List D) (h : AHeap) (K E : D → AHeap → Prop) : tb32p.c g args h K E = if g = 32 then cNodeA args h K E else tb62p.c g args h K E := rfl
theorem tb32p_ok : tb32p.ok Tryz.prog := Tab.addE_ok tb62p_ok cNodeA_ok
theorem tb32p_e : type_of% (And.intro (And.intro @tb32p_q (And.intro @tb32p_a @tb32p_c)) @tb62p_e) := (And.intro (And.intro @tb32p_q (And.intro @tb32p_a @tb32p_c)) @tb62p_e)

def tb86p : Tab := tb32p.addS 86 s86p [.tmp 2] 18
theorem tb86p_q : tb86p.q = tb32p.q := rfl
theorem tb86p_a : tb86p.a = tb32p.a := rfl
theorem tb86p_c (g : FuncId) (args : List D) (h : AHeap) (K E : D → AHeap → Prop) : tb86p.c g args h K E = if g = 86 then (args.length ≤ 18 ∧ vc tb32p s86p (todo tb32p (retS [.tmp 2] K) (panS E) []) (panS E) (argFr args) h) else tb32p.c g args h K E := rfl
theorem tb86p_ok : tb86p.ok Tryz.prog := Tab.addS_ok tb32p_ok st86p
theorem tb86p_e : type_of% (And.intro (And.intro @tb86p_q (And.intro @tb86p_a @tb86p_c)) @tb32p_e) := (And.intro (And.intro @tb86p_q (And.intro @tb86p_a @tb86p_c)) @tb32p_e)

/-- The depth is taken back. -/
def dIn : DTab := fun k args u h F => k = 103 ∧ ∃ (b id : Nat) (l : List Tok) (s : PS), args = [.ptr b 1 0] ∧ h.f b = some (.cells [.ptr id 1 0]) ∧ h.f id = some (pObj l s) ∧ F u (h.set id (pObj l { s with deep := IntKind.i64.wrap (s.deep - 1) }))
theorem dIn_ok (κ : Kap) (w : World) : dIn.okY Tryz.prog κ w := by
  rintro k args u h F ⟨rfl, b, id, l, s, rfl, hb, hid, hF⟩ κ' w' le
  refine DCallsAt.of_stm ((Tab.zero_ok Tryz.prog).toY κ' w') st103p (by simp) ?_
  have hid' : h.f id = some (.cells [.sl (encT l), .int .i64 s.pos, .int .i64 s.nods, .int .i64 s.deep]) := hid
  simp (config := {maxSteps := 1000000}) only [s103p, hb, hid', retO_normal, zzK, seval]
  exact ⟨_, AHeap.sub_refl _, hF⟩
end
end Go.Proofs.YtpagdhbmbnoddaaGreatDoor.Zz
/- Contracts: literals. -/
namespace Go.Proofs.YtpagdhbmbnoddaaGreatDoor.Zz
noncomputable section
set_option linter.unusedVariables false
set_option linter.unusedSimpArgs false
set_option maxRecDepth 20000
def p83p : Plan := ⟨⟨[], [(1, 1), (10, 1), (12, 1), (15, 2)], [], [], [], []⟩, [], [], false⟩
/-- (*cupel/parse.parser).plain (1 parameters, 0 captured) -/
def s83p : Stm :=
 .seq (.ops [⟨.alloc [(.int .i64 0), (.int .i64 0), (.str []), (.int .i64 0), .nilsl], (some 2), none, false⟩,
 ⟨.mov (.c (.bool false)), (some 3), none, true⟩])
 (.seq (.ops [⟨.mov (.t 0), (some 8), none, true⟩,
 ⟨.call (.f 33) [(.t 8)], (some 9), none, false⟩,
 ⟨.alloc [(.int .i64 0), (.str []), (.int .i64 0)], (some 4), none, false⟩,
 ⟨.store 3 (.t 4) (.t 9), none, none, false⟩])
 (.seq (.ops [⟨.alloc [(.int .i64 0), (.int .i64 0), (.str []), (.int .i64 0), .nilsl], (some 5), none, false⟩])
 (.seq (.block 0 (.seq (.ops [⟨.fieldAddr 0 (.t 4), (some 12), none, true⟩,
 ⟨.load none (.t 12), (some 13), none, false⟩,
 ⟨.bin .eql (.t 13) (.c (.int .i64 2)), (some 14), none, true⟩,
 ⟨.mov (.t 14), (some 11), none, true⟩])
 (.cond (.t 11)
 (.seq (.ops [⟨.fieldAddr 1 (.t 4), (some 16), none, true⟩,
 ⟨.load none (.t 16), (some 17), none, false⟩,
 ⟨.qcall (.f 102) [(.t 17), (.c (.int .i64 10)), (.c (.int .i64 64))], (some 18), none, false⟩,
 ⟨.mov (.t 18), (some 15), none, true⟩,
 ⟨.extract (.t 15) 0, (some 19), none, true⟩,
 ⟨.extract (.t 15) 1, (some 20), none, true⟩,
 ⟨.mov (.t 19), (some 6), none, true⟩,
 ⟨.mov (.t 20), (some 7), none, true⟩])
 (.ops [⟨.mov (.t 6), (some 21), none, true⟩,
 ⟨.build [(.int .i64 0), (.int .i64 0), (.str []), (.int .i64 0), .nilsl] [(0, 1, (.c (.int .i64 20))), (3, 1, (.t 21))], (some 22), none, true⟩,
 ⟨.store 5 (.t 5) (.t 22), none, none, false⟩]))
 (.seq (.ops [⟨.fieldAddr 0 (.t 4), (some 24), none, true⟩,
 ⟨.load none (.t 24), (some 25), none, false⟩,
 ⟨.bin .eql (.t 25) (.c (.int .i64 3)), (some 26), none, true⟩,
 ⟨.mov (.t 26), (some 23), none, true⟩])
 (.cond (.t 23)
 (.seq (.ops [⟨.fieldAddr 1 (.t 4), (some 27), none, true⟩,
 ⟨.load none (.t 27), (some 28), none, false⟩,
 ⟨.qcall (.f 39) [(.t 28)], (some 29), none, false⟩,
 ⟨.store 5 (.t 5) (.t 29), none, none, false⟩])
 (.ops [⟨.fieldAddr 1 (.t 5), (some 30), none, true⟩,
 ⟨.store 1 (.t 30) (.c (.int .i64 0)), none, none, false⟩]))
 (.seq (.ops [⟨.mov (.t 0), (some 32), none, true⟩,
 ⟨.call (.f 34) [(.t 32), (.c (.str [116, 114, 117, 101]))], (some 33), none, false⟩,
 ⟨.mov (.t 33), (some 31), none, true⟩])
 (.cond (.t 31)
 (.ops [⟨.build [(.int .i64 0), (.int .i64 0), (.str []), (.int .i64 0), .nilsl] [(0, 1, (.c (.int .i64 22))), (3, 1, (.c (.int .i64 1)))], (some 34), none, true⟩,
 ⟨.store 5 (.t 5) (.t 34), none, none, false⟩])
 (.seq (.ops [⟨.mov (.t 0), (some 36), none, true⟩,
 ⟨.call (.f 34) [(.t 36), (.c (.str [102, 97, 108, 115, 101]))], (some 37), none, false⟩,
 ⟨.mov (.t 37), (some 35), none, true⟩])
 (.cond (.t 35)
 (.ops [⟨.build [(.int .i64 0), (.int .i64 0), (.str []), (.int .i64 0), .nilsl] [(0, 1, (.c (.int .i64 22)))], (some 38), none, true⟩,
 ⟨.store 5 (.t 5) (.t 38), none, none, false⟩])
 (.seq (.ops [⟨.load (some 5) (.t 5), (some 10), none, false⟩,
 ⟨.store 5 (.t 2) (.t 10), none, none, false⟩,
 ⟨.mov (.c (.bool false)), (some 3), none, true⟩])
 (.ret)))))))))))
 (.seq (.ops [⟨.mov (.t 0), (some 39), none, true⟩,
 ⟨.nilCheck (.t 39), (some 40), none, true⟩,
 ⟨.fieldAddr 1 (.t 40), (some 41), none, true⟩,
 ⟨.load none (.t 41), (some 42), none, false⟩,
 ⟨.bin .add (.t 42) (.c (.int .i64 1)), (some 43), none, true⟩,
 ⟨.nilCheck (.t 39), (some 44), none, true⟩,
 ⟨.fieldAddr 1 (.t 44), (some 45), none, true⟩,
 ⟨.store 1 (.t 45) (.t 43), none, none, false⟩])
 (.seq (.ops [⟨.mov (.t 0), (some 46), none, true⟩,
 ⟨.load (some 5) (.t 5), (some 47), none, false⟩,
 ⟨.call (.f 32) [(.t 46), (.t 47)], (some 48), none, false⟩,
 ⟨.store 5 (.t 2) (.t 48), none, none, false⟩,
 ⟨.mov (.c (.bool true)), (some 3), none, true⟩])
 (.ret))))))
theorem st83p : stmOf Tryz.prog 83 p83p = some (s83p, [.cell 2 (some 5), .tmp 3], 49) := by kernel_rfl

theorem fold_ge : ∀ (l : List UInt8) (a : Nat), a ≤ l.foldl (fun n c => n * 10 + (c.toNat - 48)) a
  | [], a => Nat.le_refl _
  | c :: l, a => by
    rw [List.foldl_cons]
    have := fold_ge l (a * 10 + (c.toNat - 48))
    omega
theorem parseU_ok : ∀ (l : List UInt8) (a : Nat), l.all isDig = true → l.foldl (fun n c => n * 10 + (c.toNat - 48)) a < 9223372036854775808 → Lib.parseUintM 18446744073709551615 a l = .ok (l.foldl (fun n c => n * 10 + (c.toNat - 48)) a)
  | [], a, _, _ => rfl
  | c :: l, a, hd, hv => by
    rw [List.all_cons, Bool.and_eq_true] at hd
    rw [List.foldl_cons] at hv ⊢
    have g := fold_ge l (a * 10 + (c.toNat - 48))
    have hc := hd.1
    simp only [isDig, Bool.and_eq_true, decide_eq_true_eq] at hc
    rw [Lib.parseUintM, if_pos (by omega), if_neg (by omega), if_neg (by omega), parseU_ok l _ hd.2 hv]
theorem parseInt_c (s : List UInt8) (hd : s.all isDig = true) (hne : s ≠ []) (hl : s.length ≤ 4096) (hv : valF s < 9223372036854775808) : PCall Tryz.prog 102 [.str s, .int .i64 10, .int .i64 64] (.tuple [.int .i64 (valF s : Nat), .nilif]) := by
  have hp : Lib.parseIntB 64 s = .ok (valF s : Nat) := by
    cases s with
    | nil => exact absurd rfl hne
    | cons c r =>
      have hc := hd
      simp only [List.all_cons, isDig, Bool.and_eq_true, decide_eq_true_eq] at hc
      have n1 : ¬ c.toNat = 43 := by omega
      have n2 : ¬ c.toNat = 45 := by omega
      have hu : Lib.parseUintB 64 (c :: r) = .ok (valF (c :: r)) := by
        rw [Lib.parseUintB, if_neg (by simp)]
        exact parseU_ok (c :: r) 0 hd hv
      unfold Lib.parseIntB
      simp only [n1, n2, or_self, if_false, false_and, not_false_eq_true, true_and]
      rw [hu]
      simp only [Nat.reduceSub, Nat.reducePow]
      rw [if_neg (by omega)]
  refine PCall.of_below (by kernel_rfl) fun κ w vs hg hr _ => ?_
  obtain ⟨vl⟩ := vs
  cases hr with
  | cons r1 hr =>
    cases hr with
    | cons r2 hr =>
      cases hr with
      | cons r3 hr =>
        cases hr
        rw [rep_int_inv r2, rep_int_inv r3]
        cases r1 with
        | str _ h1 =>
        refine (Tryz.strconv_ParseInt_10_at64_ok ⟨s.toArray⟩ (by simp [ByteArray.size]; omega) _ (by simpa using hp) w).mono fun e w' ⟨e1, e2⟩ => ⟨_, e1, fun _ _ => RepL.tuple (.cons (.int _ _) (.cons .nilif .nil)), ?_⟩
        rcases e2 with e2 | ⟨t, e2⟩
        · rw [e2]; exact Go.RowKit.Below.refl _ _
        · rw [e2]; exact Lib.bytesWorld_below _ _ _
/-- What is known of words. -/
structure WOk (l : List Tok) : Prop where
  lo : LOk l
  whole : ∀ t ∈ l, t.1 = 2 → t.2.1.all isDig = true ∧ t.2.1 ≠ [] ∧ t.2.1.length ≤ 4096 ∧ valF t.2.1 < 9223372036854775808
  dot : ∀ t ∈ l, t.1 = 3 → ∃ A B, Dotted t.2.1 A B
open Classical in
def q102p : List D → Option D
  | [.str s, .int .i64 10, .int .i64 64] => if s.all isDig = true ∧ s ≠ [] ∧ s.length ≤ 4096 ∧ valF s < 9223372036854775808 then some (.tuple [.int .i64 (valF s : Nat), .nilif]) else none
  | _ => none
theorem q102p_ok (args : List D) (d : D) (h : q102p args = some d) : PCall Tryz.prog 102 args d := by
  unfold q102p at h
  split at h
  · split at h
    · rename_i c
      cases h
      exact parseInt_c _ c.1 c.2.1 c.2.2.1 c.2.2.2
    · cases h
  · cases h
open Classical in
def q39p : List D → Option D
  | [.str s] => if ∃ A B, Dotted s A B then some (.agg [.int .i64 21, .int .i64 2, .str (digF s), .int .i64 (bitsF (digF s)), .sl []]) else none
  | _ => none
theorem q39p_ok (args : List D) (d : D) (h : q39p args = some d) : PCall Tryz.prog 39 args d := by
  unfold q39p at h
  split at h
  · split at h
    · rename_i c
      cases h
      obtain ⟨A, B, c⟩ := c
      exact float_c _ A B c
    · cases h
  · cases h
def tb102p : Tab := tb86p.addQ 102 q102p
theorem tb102p_q (g : FuncId) (args : List D) : tb102p.q g args = if g = 102 then q102p args else tb86p.q g args := rfl
theorem tb102p_a : tb102p.a = tb86p.a := rfl
theorem tb102p_c : tb102p.c = tb86p.c := rfl
theorem tb102p_ok : tb102p.ok Tryz.prog := Tab.addQ_ok tb86p_ok q102p_ok
theorem tb102p_e : type_of% (And.intro (And.intro @tb102p_q (And.intro @tb102p_a @tb102p_c)) @tb86p_e) := (And.intro (And.intro @tb102p_q (And.intro @tb102p_a @tb102p_c)) @tb86p_e)

def tb39p : Tab := tb102p.addQ 39 q39p
theorem tb39p_q (g : FuncId) (args : List D) : tb39p.q g args = if g = 39 then q39p args else tb102p.q g args := rfl
theorem tb39p_a : tb39p.a = tb102p.a := rfl
theorem tb39p_c : tb39p.c = tb102p.c := rfl
theorem tb39p_ok : tb39p.ok Tryz.prog := Tab.addQ_ok tb102p_ok q39p_ok
theorem tb39p_e : type_of% (And.intro (And.intro @tb39p_q (And.intro @tb39p_a @tb39p_c)) @tb102p_e) := (And.intro (And.intro @tb39p_q (And.intro @tb39p_a @tb39p_c)) @tb102p_e)

theorem pNow_mem {l : List Tok} {s : PS} (ok : PSat l s) : pNow l s ∈ l := List.mem_of_getElem? (pNow_get ok)
theorem pStep_ok {l : List Tok} {s : PS} (hl : LOk l) (ok : PSok l s) (h : (pNow l s).1 ≠ 0) : PSok l (pStep s) := by
  have := hl.fin _ _ (pNow_get ok.at_) h
  obtain ⟨h1, h2, h3, h4, h5, h6⟩ := ok
  exact ⟨by simp only [pStep]; omega, by simp only [pStep]; omega, h3, h4, h5, h6⟩
set_option maxHeartbeats 1000000 in
theorem plain_c (l : List Tok) (hl : WOk l) (s : PS) (id : Nat) (ok : PSok l s) (K0 : Nd × Bool → PS → Prop) (E0 : Int → Int → Prop) (hw : wpR (pPlain l s) (fun x s' => PSok l s' → K0 x s') E0) : ACalls Tryz.prog 83 [.ptr id 1 0] (AHeap.emp.set id (pObj l s)) (retP (fun x : Nd × Bool => .tuple [.agg x.1.enc, .bool x.2]) l id K0 E0) := by
  refine ACalls.of_stmD tb39p_ok (dc := DTab.none) (fun _ _ => DTab.none_ok) (by kernel_rfl) st83p (by simp) ?_
  rw [vc_todo]
  have w1 : IntKind.i64.wrap (s.pos + 1) = s.pos + 1 := wrap_i64 (by have := ok.p0p; omega) (by have := ok.p1p; have := hl.lo.len; omega)
  simp (config := {maxSteps := 1000000}) only [s83p, tb39p_e, zzK, seval]
  intro i2 n1 n2
  refine ⟨l, s, id, rfl, by simp [n1, n2], ok.at_, ?_⟩
  have hmem := pNow_mem ok.at_
  have hwh := hl.whole _ hmem
  have hdt := hl.dot _ hmem
  have hst := pStep_ok hl.lo ok
  simp only [pPlain] at hw
  have hnow : ∀ x, pIs l x s = ((pNow l s).2.1 == x && ((pNow l s).1 == 5 || (pNow l s).1 == 4)) := fun _ => rfl
  generalize ht : pNow l s = t at *
  obtain ⟨kk, y, a⟩ := t
  simp only at hwh hdt hst hw hnow
  simp (config := {maxSteps := 1000000}) only [tokD, n1, n2, tb39p_e, zzK, seval]
  intro i4 m1 m2 m3 m4 i5 m5 m6 m7 m8 m9 m10
  cases c2p : (kk == 2) with
  | true =>
    rw [c2p, cond_true, wpR_bind] at hw
    have e2 : kk = 2 := by simpa using c2p
    obtain ⟨d1, d2, d3, d4⟩ := hwh e2
    have ok' := hst (by omega)
    have hq : q102p [.str y, .int .i64 10, .int .i64 64] = some (.tuple [.int .i64 (valF y : Nat), .nilif]) := if_pos ⟨d1, d2, d3, d4⟩
    simp (config := {maxSteps := 1000000}) only [c2p, hq, pObj, w1, n1, n2, m1, m2, m3, m4, m5, m6, m7, m8, m9, m10, tb39p_e, zzK, seval]
    refine .inl ⟨l, pStep s, id, .mk 20 0 [] (valF y : Nat) [], by simp only [enc_mk, encs_nil], hl.lo, by simp [pObj, pStep, n1, n2, m1, m2, m3, m4, m5, m6, m7, m8, m9, m10], ok', wpR_mono (fun n s1p k ok1 => ?_) (fun a e k s' => ?_) hw⟩
    · obtain ⟨nk, nt, ns, nm, nl⟩ := n
      simp (config := {maxSteps := 1000000}) only [enc_mk, n1, n2, m1, m2, m3, m4, m5, m6, m7, m8, m9, m10, retD_ret, leav_nil, finD, tb39p_e, zzK, seval]
      exact mid_ret (x := (.mk nk nt ns nm nl, true)) (s' := s1p) (by rw [enc_mk]) (by simp [n1, n2, m1, m2, m3, m4, m5, m6, m7, m8, m9, m10]) (k ok1)
    · simp only [panD, leav_nil, finD]
      exact mid_pan (s' := s') (by simp [n1, n2, m1, m2, m3, m4, m5, m6, m7, m8, m9, m10]) k
  | false =>
    rw [c2p, cond_false] at hw
    cases c3p : (kk == 3) with
    | true =>
      rw [c3p, cond_true, wpR_bind] at hw
      have e3 : kk = 3 := by simpa using c3p
      have hd := hdt e3
      have ok' := hst (by omega)
      have hq : q39p [.str y] = some (.agg [.int .i64 21, .int .i64 2, .str (digF y), .int .i64 (bitsF (digF y)), .sl []]) := if_pos hd
      simp (config := {maxSteps := 1000000}) only [c2p, c3p, hq, pObj, w1, n1, n2, m1, m2, m3, m4, m5, m6, m7, m8, m9, m10, tb39p_e, zzK, seval]
      refine .inl ⟨l, pStep s, id, floatN y, by simp only [floatN, enc_mk, encs_nil], hl.lo, by simp [pObj, pStep, n1, n2, m1, m2, m3, m4, m5, m6, m7, m8, m9, m10], ok', wpR_mono (fun n s1p k ok1 => ?_) (fun a e k s' => ?_) hw⟩
      · obtain ⟨nk, nt, ns, nm, nl⟩ := n
        simp (config := {maxSteps := 1000000}) only [enc_mk, n1, n2, m1, m2, m3, m4, m5, m6, m7, m8, m9, m10, retD_ret, leav_nil, finD, tb39p_e, zzK, seval]
        exact mid_ret (x := (.mk nk nt ns nm nl, true)) (s' := s1p) (by rw [enc_mk]) (by simp [n1, n2, m1, m2, m3, m4, m5, m6, m7, m8, m9, m10]) (k ok1)
      · simp only [panD, leav_nil, finD]
        exact mid_pan (s' := s') (by simp [n1, n2, m1, m2, m3, m4, m5, m6, m7, m8, m9, m10]) k
    | false =>
      rw [c3p, cond_false] at hw
      simp (config := {maxSteps := 1000000}) only [c2p, c3p, n1, n2, m1, m2, m3, m4, m5, m6, m7, m8, m9, m10, tb39p_e, zzK, seval]
      refine ⟨l, s, id, wTrue, rfl, by simp [n1, n2, m1, m2, m3, m4, m5, m6, m7, m8, m9, m10], ok.at_, ?_⟩
      cases c4p : pIs l wTrue s with
      | true =>
        rw [c4p, cond_true, wpR_bind] at hw
        have ok' := pIs_fin hl.lo ok c4p
        simp (config := {maxSteps := 1000000}) only [pObj, w1, n1, n2, m1, m2, m3, m4, m5, m6, m7, m8, m9, m10, tb39p_e, zzK, seval]
        refine .inl ⟨l, pStep s, id, .mk 22 0 [] 1 [], by simp only [enc_mk, encs_nil], hl.lo, by simp [pObj, pStep, n1, n2, m1, m2, m3, m4, m5, m6, m7, m8, m9, m10], ok', wpR_mono (fun n s1p k ok1 => ?_) (fun a e k s' => ?_) hw⟩
        · obtain ⟨nk, nt, ns, nm, nl⟩ := n
          simp (config := {maxSteps := 1000000}) only [enc_mk, n1, n2, m1, m2, m3, m4, m5, m6, m7, m8, m9, m10, retD_ret, leav_nil, finD, tb39p_e, zzK, seval]
          exact mid_ret (x := (.mk nk nt ns nm nl, true)) (s' := s1p) (by rw [enc_mk]) (by simp [n1, n2, m1, m2, m3, m4, m5, m6, m7, m8, m9, m10]) (k ok1)
        · simp only [panD, leav_nil, finD]
          exact mid_pan (s' := s') (by simp [n1, n2, m1, m2, m3, m4, m5, m6, m7, m8, m9, m10]) k
      | false =>
        rw [c4p, cond_false] at hw
        simp (config := {maxSteps := 1000000}) only [n1, n2, m1, m2, m3, m4, m5, m6, m7, m8, m9, m10, tb39p_e, zzK, seval]
        refine ⟨l, s, id, wFalse, rfl, by simp [n1, n2, m1, m2, m3, m4, m5, m6, m7, m8, m9, m10], ok.at_, ?_⟩
        cases c5p : pIs l wFalse s with
        | true =>
          rw [c5p, cond_true, wpR_bind] at hw
          have ok' := pIs_fin hl.lo ok c5p
          simp (config := {maxSteps := 1000000}) only [pObj, w1, n1, n2, m1, m2, m3, m4, m5, m6, m7, m8, m9, m10, tb39p_e, zzK, seval]
          refine .inl ⟨l, pStep s, id, .mk 22 0 [] 0 [], by simp only [enc_mk, encs_nil], hl.lo, by simp [pObj, pStep, n1, n2, m1, m2, m3, m4, m5, m6, m7, m8, m9, m10], ok', wpR_mono (fun n s1p k ok1 => ?_) (fun a e k s' => ?_) hw⟩
          · obtain ⟨nk, nt, ns, nm, nl⟩ := n
            simp (config := {maxSteps := 1000000}) only [enc_mk, n1, n2, m1, m2, m3, m4, m5, m6, m7, m8, m9, m10, retD_ret, leav_nil, finD, tb39p_e, zzK, seval]
            exact mid_ret (x := (.mk nk nt ns nm nl, true)) (s' := s1p) (by rw [enc_mk]) (by simp [n1, n2, m1, m2, m3, m4, m5, m6, m7, m8, m9, m10]) (k ok1)
          · simp only [panD, leav_nil, finD]
            exact mid_pan (s' := s') (by simp [n1, n2, m1, m2, m3, m4, m5, m6, m7, m8, m9, m10]) k
        | false =>
          rw [c5p, cond_false, wpR_ok] at hw
          simp (config := {maxSteps := 1000000}) only [n1, n2, m1, m2, m3, m4, m5, m6, m7, m8, m9, m10, retD_ret, leav_nil, finD, tb39p_e, zzK, seval]
          exact mid_ret' (x := (.mk 0 0 [] 0 [], false)) (s' := s) (by rw [enc_mk, encs_nil]) (by simp [n1, n2, m1, m2, m3, m4, m5, m6, m7, m8, m9, m10]) (hw ok)
def cPlain (args : List D) (h : AHeap) (K E : D → AHeap → Prop) : Prop := ∃ (l : List Tok) (s : PS) (id : Nat) , args = [.ptr id 1 0] ∧ WOk l ∧ cP (pPlain l) (fun x : Nd × Bool => .tuple [.agg x.1.enc, .bool x.2]) l s id h K E
theorem cPlain_mono (args : List D) (h : AHeap) (K E K' E' : D → AHeap → Prop) (hk : ∀ d h, K d h → K' d h) (he : ∀ d h, E d h → E' d h) (c : cPlain args h K E) : cPlain args h K' E' := by
  obtain ⟨l, s, id, a, b, c⟩ := c
  exact ⟨l, s, id, a, b, cP_mono hk he c⟩
theorem cPlain_ok (args : List D) (h : AHeap) (K E : D → AHeap → Prop) (c : cPlain args h K E) : ACalls Tryz.prog 83 args h (AOut.to K E) := by
  obtain ⟨l, s, id, rfl, hl, c⟩ := c
  exact cP_ok (fun ok K0 E0 hw => plain_c l hl s id  ok K0 E0 hw) c

def tb83p : Tab := tb39p.addE 83 cPlain cPlain_mono
theorem tb83p_q : tb83p.q = tb39p.q := rfl
theorem tb83p_a : tb83p.a = tb39p.a := rfl
theorem tb83p_c (g : FuncId) (args : List D) (h : AHeap) (K E : D → AHeap → Prop) : tb83p.c g args h K E = if g = 83 then cPlain args h K E else tb39p.c g args h K E := rfl
theorem tb83p_ok : tb83p.ok Tryz.prog := Tab.addE_ok tb39p_ok cPlain_ok
theorem tb83p_e : type_of% (And.intro (And.intro @tb83p_q (And.intro @tb83p_a @tb83p_c)) @tb39p_e) := (And.intro (And.intro @tb83p_q (And.intro @tb83p_a @tb83p_c)) @tb39p_e)

end
end Go.Proofs.YtpagdhbmbnoddaaGreatDoor.Zz
/- What is known of the words of a text: numbers are digits, one word more stands behind each. -/
namespace Go.Proofs.YtpagdhbmbnoddaaGreatDoor.Zz
set_option linter.unusedVariables false
set_option linter.unusedSimpArgs false
theorem valF_acc : ∀ (l : List UInt8) (n : Nat), l.foldl (fun n c => n * 10 + (c.toNat - 48)) n = n * 10 ^ l.length + valF l
  | [], n => by simp [valF]
  | c :: l, n => by
    have h1 := valF_acc l (n * 10 + (c.toNat - 48))
    have h2 := valF_acc l (0 * 10 + (c.toNat - 48))
    unfold valF at *
    simp only [List.foldl_cons, List.length_cons]
    rw [h1, h2, Nat.pow_succ]
    simp only [Nat.zero_mul, Nat.zero_add, Nat.add_mul, Nat.mul_assoc, Nat.mul_comm 10, Nat.add_assoc]
theorem valF_cons (c : UInt8) (l : List UInt8) : valF (c :: l) = (c.toNat - 48) * 10 ^ l.length + valF l := by
  have := valF_acc l (0 * 10 + (c.toNat - 48))
  simp only [Nat.zero_mul, Nat.zero_add] at this
  rw [← this]
  simp [valF]
theorem less_val : ∀ (s t : List UInt8), s.length = t.length → s.all isDig = true → t.all isDig = true → Op.bytesLess s t = true → valF s < valF t
  | [], [], _, _, _, h => by simp [Op.bytesLess] at h
  | [], _ :: _, e, _, _, _ => by simp at e
  | _ :: _, [], e, _, _, _ => by simp at e
  | c :: s, d :: t, e, hs, ht, h => by
    simp only [List.length_cons, Nat.add_right_cancel_iff] at e
    simp only [List.all_cons, Bool.and_eq_true] at hs ht
    have vs := valF_lt s hs.2
    have vt := valF_lt t ht.2
    have hc := hs.1
    have hd := ht.1
    simp only [isDig, Bool.and_eq_true, decide_eq_true_eq] at hc hd
    rw [valF_cons, valF_cons, e]
    rw [e] at vs
    simp only [Op.bytesLess] at h
    by_cases c1p : c < d
    · have c1p' : c.toNat < d.toNat := c1p
      have := Nat.mul_le_mul_right (10 ^ t.length) (show c.toNat - 48 + 1 ≤ d.toNat - 48 by omega)
      rw [Nat.add_mul] at this
      omega
    · by_cases c2p : c = d
      · subst c2p
        have hl : Op.bytesLess s t = true := by simpa using h
        have := less_val s t e hs.2 ht.2 hl
        omega
      · simp [c1p, c2p] at h
theorem wholeL_ok {s : List UInt8} (ha : s.all isDig = true) (h : wholeL s = true) : s.length ≤ 19 ∧ valF s < 9223372036854775808 := by
  unfold wholeL at h
  simp only [Bool.and_eq_true, Bool.not_eq_true', Bool.or_eq_false_iff, decide_eq_false_iff_not, Bool.or_eq_true, decide_eq_true_eq, beq_iff_eq] at h
  obtain ⟨⟨_, h1⟩, h2⟩ := h
  refine ⟨by omega, ?_⟩
  have em : valF mxL = 9223372036854775807 := by decide +kernel
  rcases h2 with h2 | h2 | h2
  · have h3 := valF_lt s ha
    have h4 := Nat.pow_le_pow_right (show 0 < 10 by decide) (show s.length ≤ 18 by omega)
    have h5 : (10 : Nat) ^ 18 = 1000000000000000000 := by decide
    omega
  · by_cases c : s.length = 19
    · have := less_val s mxL (by rw [c]; rfl) ha (by decide) h2
      omega
    · have h3 := valF_lt s ha
      have h4 := Nat.pow_le_pow_right (show 0 < 10 by decide) (show s.length ≤ 18 by omega)
      have h5 : (10 : Nat) ^ 18 = 1000000000000000000 := by decide
      omega
  · rw [h2, em]; decide
theorem isDig_eq (c : UInt8) : isDigit (c.toNat : Int) = isDig c := by
  simp only [isDigit, isDig]
  congr 1 <;> · apply decide_eq_decide.2; omega
theorem take_spn (l : List UInt8) : (l.take (spn isDigit l)).all isDig = true := by
  induction l with
  | nil => rfl
  | cons c l ih =>
    rw [spn_cons]
    split
    · rename_i h; rw [isDig_eq] at h; simp [h]; simpa using ih
    · rfl
/-- What is known of a word that is not the last. -/
structure TGood (t : Tok) : Prop where
  ne : t.1 ≠ 0
  whole : t.1 = 2 → t.2.1.all isDig = true ∧ t.2.1 ≠ [] ∧ t.2.1.length ≤ 4096 ∧ valF t.2.1 < 9223372036854775808
  dot : t.1 = 3 → ∃ A B, Dotted t.2.1 A B
theorem numL_good {l : List UInt8} {p : Int} (hl : 0 < l.length) (hd : isDigit ((l.getD 0 0).toNat : Int) = true) (h : (numL l).2.2 = true) : TGood ((numL l).1, (numL l).2.1, p) := by
  have h1 := spn_pos hl hd
  have h2 := spn_le isDigit l
  have hA := take_spn l
  unfold numL at h ⊢
  generalize hn : spn isDigit l = n at *
  by_cases hc : (decide (n < l.length) && ((l.getD n 0).toNat : Int) == 46) = true
  · rw [if_pos hc] at h ⊢
    have h3 := spn_le isDigit (l.drop (n + 1))
    have hB := take_spn (l.drop (n + 1))
    rw [List.length_drop] at h3
    generalize spn isDigit (l.drop (n + 1)) = m at *
    simp only [Bool.not_eq_true', Bool.or_eq_false_iff, decide_eq_false_iff_not] at h
    simp only [Bool.and_eq_true, decide_eq_true_eq, beq_iff_eq] at hc
    refine ⟨by simp, by simp, fun _ => ⟨l.take n, (l.drop (n + 1)).take m, ?_, hA, hB, ?_, ?_, ?_⟩⟩
    · have e1 : l.getD n 0 = 46 := by
        have := hc.2
        have h46 : (46 : UInt8).toNat = 46 := rfl
        exact UInt8.toNat_inj.1 (by omega)
      have e2 := drop_cons hc.1
      rw [e1] at e2
      show l.take (n + 1 + m) = _
      rw [Nat.add_assoc, List.take_add, e2, Nat.add_comm 1 m, List.take_succ_cons]
      simp
    · rw [List.length_take]; omega
    · rw [List.length_take, List.length_drop]; omega
    · rw [List.length_take, List.length_take, List.length_drop]; omega
  · rw [if_neg hc] at h ⊢
    have hw := wholeL_ok hA h
    refine ⟨by simp, fun _ => ⟨hA, ?_, by have := hw.1; simp only; omega, hw.2⟩, by simp⟩
    intro e
    have := congrArg List.length e
    rw [List.length_take] at this
    simp only [List.length_nil] at this
    omega
theorem oneL_good {l : List UInt8} {p : Int} (hl : 0 < l.length) (h : (oneL l).2.2 = true) : TGood ((oneL l).1, (oneL l).2.1, p) := by
  unfold oneL at h ⊢
  split
  · rename_i hd
    rw [if_pos hd] at h
    exact numL_good hl hd h
  · rename_i hd
    rw [if_neg hd] at h
    split
    · split
      · exact ⟨by simp, by simp, by simp⟩
      · exact ⟨by simp, by simp, by simp⟩
    · rename_i ht
      rw [if_neg ht] at h
      cases hf : firstPre l signs with
      | none => rw [hf] at h; cases h
      | some x => exact ⟨by simp, by simp, by simp⟩
theorem toksN_good : ∀ (n p : Nat) (l : List UInt8) (out : List Tok), l.length < n → (toksN n p l out).2.2 = 0 → ∃ (mid : List Tok) (a : Int), (toksN n p l out).1 = out ++ mid ++ [(0, [], a)] ∧ mid.length ≤ l.length ∧ ∀ t ∈ mid, TGood t
  | 0, _, _, _, h, _ => by omega
  | n + 1, p, l, out, h, e => by
    unfold toksN at e ⊢
    by_cases c : l = []
    · rw [if_pos c] at e ⊢
      exact ⟨[], (p : Int), by simp, by simp, by simp⟩
    · rw [if_neg c] at e ⊢
      have hl : 0 < l.length := List.length_pos_iff.2 c
      by_cases c2p : (oneL l).2.2 = false
      · rw [if_pos c2p] at e; cases e
      · rw [if_neg c2p] at e ⊢
        have ht : (oneL l).2.2 = true := by simpa using c2p
        have ok := oneL_ok hl ht
        obtain ⟨mid, a, e1, e2, e3⟩ := toksN_good n _ _ _ (by rw [List.length_drop]; omega) e
        refine ⟨((oneL l).1, (oneL l).2.1, (p : Int)) :: mid, a, by rw [e1]; simp, ?_, fun t m => ?_⟩
        · rw [List.length_drop] at e2
          simp only [List.length_cons]
          omega
        · simp only [List.mem_cons] at m
          rcases m with rfl | m
          · exact oneL_good hl ht
          · exact e3 t m
theorem tokens_good (x : List UInt8) (h : (tokens x).2.2 = 0) : ∃ (mid : List Tok) (a : Int), (tokens x).1 = mid ++ [(0, [], a)] ∧ mid.length ≤ 4096 ∧ ∀ t ∈ mid, TGood t := by
  unfold tokens at h ⊢
  split at h
  · cases h
  · rename_i c
    rw [if_neg c]
    obtain ⟨mid, a, e1, e2, e3⟩ := toksN_good _ _ _ _ (by rw [List.length_drop]; omega) h
    rw [List.length_drop] at e2
    exact ⟨mid, a, by rw [e1]; simp, by omega, e3⟩
theorem tokens_ok (x : List UInt8) (h : (tokens x).2.2 = 0) : WOk (tokens x).1 ∧ 0 < (tokens x).1.length := by
  obtain ⟨mid, a, e1, e2, e3⟩ := tokens_good x h
  rw [e1]
  refine ⟨⟨⟨by simp; omega, fun i t hi ht => ?_⟩, fun t m k => ?_, fun t m k => ?_⟩, by simp⟩
  · rw [List.getElem?_append] at hi
    split at hi
    · simp; omega
    · rename_i c
      have : i - mid.length = 0 := by
        have := (List.getElem?_eq_some_iff.1 hi).1
        simp at this; omega
      rw [this] at hi
      cases hi
      exact (ht rfl).elim
  · simp only [List.mem_append, List.mem_singleton] at m
    rcases m with m | rfl
    · exact (e3 t m).whole k
    · simp at k
  · simp only [List.mem_append, List.mem_singleton] at m
    rcases m with m | rfl
    · exact (e3 t m).dot k
    · simp at k
end Go.Proofs.YtpagdhbmbnoddaaGreatDoor.Zz
