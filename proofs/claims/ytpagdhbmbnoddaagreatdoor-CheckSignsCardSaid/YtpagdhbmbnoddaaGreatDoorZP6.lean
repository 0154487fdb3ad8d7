/- Contracts: literals with a sign; the ranks of signs. -/
import Derived.Test.YtpagdhbmbnoddaaGreatDoorZP3
import Derived.Test.YtpagdhbmbnoddaaGreatDoorZZG
set_option linter.unnecessarySimpa false
set_option linter.unusedVariables false
set_option linter.unusedSimpArgs false
set_option maxRecDepth 20000
namespace Go.Proofs.YtpagdhbmbnoddaaGreatDoor.Zz
noncomputable section
def p64p : Plan := ⟨⟨[], [(1, 1), (2, 1), (4, 1)], [], [], [], []⟩, [], [], false⟩
def s64p : Stm :=
 .seq (.ops [⟨.alloc [(.int .i64 0), (.int .i64 0), (.str []), (.int .i64 0), .nilsl], some 2, none, false⟩])
 (.seq (.ops [⟨.mov (.t 0), some 6, none, true⟩,
 ⟨.call (.f 60) [(.t 6), (.c (.str [45]))], some 7, none, false⟩,
 ⟨.mov (.t 7), some 3, none, true⟩])
 (.seq (.ops [⟨.mov (.t 0), some 9, none, true⟩,
 ⟨.call (.f 83) [(.t 9)], some 10, none, false⟩,
 ⟨.mov (.t 10), some 8, none, true⟩,
 ⟨.extract (.t 8) 0, some 11, none, true⟩,
 ⟨.extract (.t 8) 1, some 12, none, true⟩,
 ⟨.alloc [(.int .i64 0), (.int .i64 0), (.str []), (.int .i64 0), .nilsl], some 4, none, false⟩,
 ⟨.store 5 (.t 4) (.t 11), none, none, false⟩,
 ⟨.mov (.t 12), some 5, none, true⟩])
 (.seq (.seq (.ops [⟨.mov (.t 5), some 13, none, true⟩,
 ⟨.un .not (.t 13), some 14, none, true⟩,
 ⟨.mov (.t 14), some 15, none, true⟩,
 ⟨.mov (.t 3), some 16, (some (15, false)), true⟩,
 ⟨.mov (.t 16), some 17, (some (15, false)), true⟩,
 ⟨.fieldAddr 0 (.t 4), some 18, (some (17, true)), true⟩,
 ⟨.load none (.t 18), some 19, (some (17, true)), false⟩,
 ⟨.bin .eql (.t 19) (.c (.int .i64 22)), some 20, (some (17, true)), true⟩,
 ⟨.pick (.t 17) (.t 20) (.c (.bool false)), some 21, (some (15, false)), true⟩,
 ⟨.pick (.t 15) (.c (.bool true)) (.t 21), some 22, none, true⟩])
 (.cond (.t 22)
 (.ops [⟨.mov (.t 0), some 23, none, true⟩,
 ⟨.call (.f 35) [(.t 23), (.c (.int .i64 110))], some 24, none, false⟩])
 (.skip)))
 (.seq (.seq (.ops [⟨.mov (.t 3), some 25, none, true⟩,
 ⟨.mov (.t 25), some 26, none, true⟩,
 ⟨.fieldAddr 0 (.t 4), some 27, (some (26, true)), true⟩,
 ⟨.load none (.t 27), some 28, (some (26, true)), false⟩,
 ⟨.bin .eql (.t 28) (.c (.int .i64 20)), some 29, (some (26, true)), true⟩,
 ⟨.pick (.t 26) (.t 29) (.c (.bool false)), some 30, none, true⟩])
 (.cond (.t 30)
 (.ops [⟨.fieldAddr 3 (.t 4), some 31, none, true⟩,
 ⟨.load none (.t 31), some 32, none, false⟩,
 ⟨.un .neg (.t 32), some 33, none, true⟩,
 ⟨.fieldAddr 3 (.t 4), some 34, none, true⟩,
 ⟨.store 1 (.t 34) (.t 33), none, none, false⟩])
 (.skip)))
 (.seq (.seq (.ops [⟨.mov (.t 3), some 35, none, true⟩,
 ⟨.mov (.t 35), some 36, none, true⟩,
 ⟨.fieldAddr 0 (.t 4), some 37, (some (36, true)), true⟩,
 ⟨.load none (.t 37), some 38, (some (36, true)), false⟩,
 ⟨.bin .eql (.t 38) (.c (.int .i64 21)), some 39, (some (36, true)), true⟩,
 ⟨.pick (.t 36) (.t 39) (.c (.bool false)), some 40, none, true⟩])
 (.cond (.t 40)
 (.ops [⟨.fieldAddr 3 (.t 4), some 41, none, true⟩,
 ⟨.load none (.t 41), some 42, none, false⟩,
 ⟨.conv (.intInt .u64) (.t 42), some 43, none, true⟩,
 ⟨.qcall (.f 85) [(.t 43)], some 44, none, false⟩,
 ⟨.un .neg (.t 44), some 45, none, true⟩,
 ⟨.qcall (.f 84) [(.t 45)], some 46, none, false⟩,
 ⟨.conv (.intInt .i64) (.t 46), some 47, none, true⟩,
 ⟨.fieldAddr 3 (.t 4), some 48, none, true⟩,
 ⟨.store 1 (.t 48) (.t 47), none, none, false⟩])
 (.skip)))
 (.seq (.ops [⟨.load (some 5) (.t 4), some 49, none, false⟩,
 ⟨.store 5 (.t 2) (.t 49), none, none, false⟩])
 (.ret)))))))
theorem st64p : stmOf Tryz.prog 64 p64p = some (s64p, [.cell 2 (some 5)], 50) := by kernel_rfl
def p132p : Plan := ⟨⟨[], [], [], [], [], []⟩, [], [], false⟩
def s132p : Stm :=
 .seq (.ops [⟨.mov (.c (.int .i64 0)), some 2, none, true⟩])
 (.seq (.seq (.ops [⟨.mov (.t 0), some 3, none, true⟩])
 (.block 0 (.seq (.ops [⟨.bin .eql (.t 3) (.c (.str [124, 124])), some 5, none, true⟩,
 ⟨.mov (.t 5), some 4, none, true⟩])
 (.cond (.t 4)
 (.seq (.ops [⟨.mov (.c (.int .i64 1)), some 2, none, true⟩])
 (.ret))
 (.seq (.ops [⟨.bin .eql (.t 3) (.c (.str [38, 38])), some 7, none, true⟩,
 ⟨.mov (.t 7), some 6, none, true⟩])
 (.cond (.t 6)
 (.seq (.ops [⟨.mov (.c (.int .i64 2)), some 2, none, true⟩])
 (.ret))
 (.seq (.seq (.ops [⟨.bin .eql (.t 3) (.c (.str [60])), some 9, none, true⟩,
 ⟨.mov (.t 9), some 8, none, true⟩])
 (.cond (.t 8)
 (.skip)
 (.seq (.ops [⟨.bin .eql (.t 3) (.c (.str [60, 61])), some 10, none, true⟩,
 ⟨.mov (.t 10), some 8, none, true⟩])
 (.cond (.t 8)
 (.skip)
 (.seq (.ops [⟨.bin .eql (.t 3) (.c (.str [62])), some 11, none, true⟩,
 ⟨.mov (.t 11), some 8, none, true⟩])
 (.cond (.t 8)
 (.skip)
 (.seq (.ops [⟨.bin .eql (.t 3) (.c (.str [62, 61])), some 12, none, true⟩,
 ⟨.mov (.t 12), some 8, none, true⟩])
 (.cond (.t 8)
 (.skip)
 (.seq (.ops [⟨.bin .eql (.t 3) (.c (.str [61, 61])), some 13, none, true⟩,
 ⟨.mov (.t 13), some 8, none, true⟩])
 (.cond (.t 8)
 (.skip)
 (.ops [⟨.bin .eql (.t 3) (.c (.str [33, 61])), some 14, none, true⟩,
 ⟨.mov (.t 14), some 8, none, true⟩])))))))))))
 (.cond (.t 8)
 (.seq (.ops [⟨.mov (.c (.int .i64 3)), some 2, none, true⟩])
 (.ret))
 (.seq (.seq (.ops [⟨.bin .eql (.t 3) (.c (.str [43])), some 16, none, true⟩,
 ⟨.mov (.t 16), some 15, none, true⟩])
 (.cond (.t 15)
 (.skip)
 (.ops [⟨.bin .eql (.t 3) (.c (.str [45])), some 17, none, true⟩,
 ⟨.mov (.t 17), some 15, none, true⟩])))
 (.cond (.t 15)
 (.seq (.ops [⟨.mov (.c (.int .i64 4)), some 2, none, true⟩])
 (.ret))
 (.seq (.seq (.ops [⟨.bin .eql (.t 3) (.c (.str [42])), some 19, none, true⟩,
 ⟨.mov (.t 19), some 18, none, true⟩])
 (.cond (.t 18)
 (.skip)
 (.seq (.ops [⟨.bin .eql (.t 3) (.c (.str [47])), some 20, none, true⟩,
 ⟨.mov (.t 20), some 18, none, true⟩])
 (.cond (.t 18)
 (.skip)
 (.ops [⟨.bin .eql (.t 3) (.c (.str [37])), some 21, none, true⟩,
 ⟨.mov (.t 21), some 18, none, true⟩])))))
 (.cond (.t 18)
 (.seq (.ops [⟨.mov (.c (.int .i64 5)), some 2, none, true⟩])
 (.ret))
 (.skip)))))))))))))
 (.seq (.ops [⟨.mov (.c (.int .i64 0)), some 2, none, true⟩])
 (.ret)))
theorem st132p : stmOf Tryz.prog 132 p132p = some (s132p, [.tmp 2], 22) := by kernel_rfl
theorem rank_c (s : List UInt8) : PCall Tryz.prog 132 [.str s] (.int .i64 (rankF s)) := by
  refine PCall.run (Tab.zero_ok _) st132p (by simp) fun E => ?_
  unfold rankF
  cases c1p : (s == [124, 124])
  case true => simp (maxSteps := 1000000) only [s132p, c1p, zzK, seval]
  cases c2p : (s == [38, 38])
  case true => simp (maxSteps := 1000000) only [s132p, c1p, c2p, zzK, seval]
  cases c3p : (s == [60])
  case true => simp (maxSteps := 1000000) only [s132p, c1p, c2p, c3p, zzK, seval]
  cases c4p : (s == [60, 61])
  case true => simp (maxSteps := 1000000) only [s132p, c1p, c2p, c3p, c4p, zzK, seval]
  cases c5p : (s == [62])
  case true => simp (maxSteps := 1000000) only [s132p, c1p, c2p, c3p, c4p, c5p, zzK, seval]
  cases c6p : (s == [62, 61])
  case true => simp (maxSteps := 1000000) only [s132p, c1p, c2p, c3p, c4p, c5p, c6p, zzK, seval]
  cases c7p : (s == [61, 61])
  case true => simp (maxSteps := 1000000) only [s132p, c1p, c2p, c3p, c4p, c5p, c6p, c7p, zzK, seval]
  cases c8p : (s == [33, 61])
  case true => simp (maxSteps := 1000000) only [s132p, c1p, c2p, c3p, c4p, c5p, c6p, c7p, c8p, zzK, seval]
  cases c9p : (s == [43])
  case true => simp (maxSteps := 1000000) only [s132p, c1p, c2p, c3p, c4p, c5p, c6p, c7p, c8p, c9p, zzK, seval]
  cases d1 : (s == [45])
  case true => simp (maxSteps := 1000000) only [s132p, c1p, c2p, c3p, c4p, c5p, c6p, c7p, c8p, c9p, d1, zzK, seval]
  cases d2 : (s == [42])
  case true => simp (maxSteps := 1000000) only [s132p, c1p, c2p, c3p, c4p, c5p, c6p, c7p, c8p, c9p, d1, d2, zzK, seval]
  cases d3 : (s == [47])
  case true => simp (maxSteps := 1000000) only [s132p, c1p, c2p, c3p, c4p, c5p, c6p, c7p, c8p, c9p, d1, d2, d3, zzK, seval]
  cases d4 : (s == [37])
  all_goals simp (maxSteps := 1000000) only [s132p, c1p, c2p, c3p, c4p, c5p, c6p, c7p, c8p, c9p, d1, d2, d3, d4, zzK, seval]
def q132p : List D → Option D
  | [.str s] => some (.int .i64 (rankF s))
  | _ => none
theorem q132p_ok (args : List D) (d : D) (h : q132p args = some d) : PCall Tryz.prog 132 args d := by
  unfold q132p at h
  split at h
  · cases h; exact rank_c _
  · cases h
theorem ext84 : extOk Tryz.prog 84 "math.Float64bits" = true := by kernel_rfl
theorem ext85 : extOk Tryz.prog 85 "math.Float64frombits" = true := by kernel_rfl
def tb132p : Tab := tb83p.addQ 132 q132p
theorem tb132p_q (g : FuncId) (args : List D) : tb132p.q g args = if g = 132 then q132p args else tb83p.q g args := rfl
theorem tb132p_a : tb132p.a = tb83p.a := rfl
theorem tb132p_c : tb132p.c = tb83p.c := rfl
theorem tb132p_ok : tb132p.ok Tryz.prog := Tab.addQ_ok tb83p_ok q132p_ok
theorem tb132p_e : type_of% (And.intro (And.intro @tb132p_q (And.intro @tb132p_a @tb132p_c)) @tb83p_e) := (And.intro (And.intro @tb132p_q (And.intro @tb132p_a @tb132p_c)) @tb83p_e)
def tb84p : Tab := tb132p.addQ 84 xBits
theorem tb84p_q (g : FuncId) (args : List D) : tb84p.q g args = if g = 84 then xBits args else tb132p.q g args := rfl
theorem tb84p_a : tb84p.a = tb132p.a := rfl
theorem tb84p_c : tb84p.c = tb132p.c := rfl
theorem tb84p_ok : tb84p.ok Tryz.prog := Tab.addX_ok tb132p_ok (xBits_ok ext84)
theorem tb84p_e : type_of% (And.intro (And.intro @tb84p_q (And.intro @tb84p_a @tb84p_c)) @tb132p_e) := (And.intro (And.intro @tb84p_q (And.intro @tb84p_a @tb84p_c)) @tb132p_e)
def tb85p : Tab := tb84p.addQ 85 xFrom
theorem tb85p_q (g : FuncId) (args : List D) : tb85p.q g args = if g = 85 then xFrom args else tb84p.q g args := rfl
theorem tb85p_a : tb85p.a = tb84p.a := rfl
theorem tb85p_c : tb85p.c = tb84p.c := rfl
theorem tb85p_ok : tb85p.ok Tryz.prog := Tab.addX_ok tb84p_ok (xFrom_ok ext85)
theorem tb85p_e : type_of% (And.intro (And.intro @tb85p_q (And.intro @tb85p_a @tb85p_c)) @tb84p_e) := (And.intro (And.intro @tb85p_q (And.intro @tb85p_a @tb85p_c)) @tb84p_e)
theorem lit_c (l : List Tok) (hl : WOk l) (s : PS) (id : Nat) (ok : PSok l s) (K0 : Nd → PS → Prop) (E0 : Int → Int → Prop) (hw : wpR (pLit l s) (fun x s' => PSok l s' → K0 x s') E0) : ACalls Tryz.prog 64 [.ptr id 1 0] (AHeap.emp.set id (pObj l s)) (retP (fun n : Nd => .agg n.enc) l id K0 E0) := by
  refine ACalls.of_stmD tb85p_ok (dc := DTab.none) (fun _ _ => DTab.none_ok) (by kernel_rfl) st64p (by simp) ?_
  rw [vc_todo]
  unfold pLit at hw
  rw [wpR_bind] at hw
  simp (maxSteps := 1000000) only [s64p, tb85p_e, zzK, seval]
  intro i2 n1 n2
  refine ⟨l, s, id, [45], rfl, hl.lo, by simp [n1, n2], ok, wpR_mono (fun mi s1p k ok1 => ?_) (fun a e k s' => ?_) hw⟩
  case refine_2 =>
    simp only [panD, leav_nil, finD]
    exact mid_pan (s' := s') (by simp [n1, n2]) k
  rw [wpR_bind] at k
  simp (maxSteps := 1000000) only [n1, n2, tb85p_e, zzK, seval]
  refine ⟨l, s1p, id, rfl, hl, by simp [n1, n2], ok1, wpR_mono (fun x s2p k ok2 => ?_) (fun a e k s' => ?_) k⟩
  case refine_2 =>
    simp only [panD, leav_nil, finD]
    exact mid_pan (s' := s') (by simp [n1, n2]) k
  obtain ⟨⟨nk, nt, ns, nm, nl⟩, b⟩ := x
  simp (maxSteps := 1000000) only [enc_mk, n1, n2, tb85p_e, zzK, seval]
  intro i4 m1 m2 m3 m4
  simp only [Nd.kind, Nd.setN, Nd.num] at k
  cases b with
  | false =>
    simp only [Bool.not_false, Bool.true_or, cond_true] at k
    simp (maxSteps := 1000000) only [n1, n2, m1, m2, m3, m4, Bool.not_false, tb85p_e, zzK, seval]
    refine ⟨l, s2p, id, 110, rfl, by simp [n1, n2, m1, m2, m3, m4], ok2.at_, ?_⟩
    simp only [panD, leav_nil, finD]
    exact mid_pan (s' := s2p) (by simp [n1, n2, m1, m2, m3, m4]) k
  | true =>
    cases mi with
    | false =>
      simp only [Bool.not_true, Bool.false_and, Bool.or_self, cond_false, wpR_ok] at k
      simp (maxSteps := 1000000) only [n1, n2, m1, m2, m3, m4, Bool.not_true, retD_ret, leav_nil, finD, tb85p_e, zzK, seval]
      exact mid_ret (x := .mk nk nt ns nm nl) (s' := s2p) (by rw [enc_mk]) (by simp [n1, n2, m1, m2, m3, m4]) (k ok2)
    | true =>
      simp only [Bool.not_true, Bool.true_and, Bool.false_or] at k
      cases c2p : (nk == 22) with
      | true =>
        rw [c2p, cond_true] at k
        simp (maxSteps := 1000000) only [c2p, n1, n2, m1, m2, m3, m4, Bool.not_true, tb85p_e, zzK, seval]
        refine ⟨l, s2p, id, 110, rfl, by simp [n1, n2, m1, m2, m3, m4], ok2.at_, ?_⟩
        simp only [panD, leav_nil, finD]
        exact mid_pan (s' := s2p) (by simp [n1, n2, m1, m2, m3, m4]) k
      | false =>
        rw [c2p, cond_false, wpR_ok] at k
        have k := k ok2
        cases c3p : (nk == 20) with
        | true =>
          have c4p : (nk == 21) = false := by simp at c3p ⊢; omega
          rw [c3p, cond_true] at k
          simp (maxSteps := 1000000) only [c2p, c3p, c4p, n1, n2, m1, m2, m3, m4, Bool.not_true, retD_ret, leav_nil, finD, tb85p_e, zzK, seval]
          exact mid_ret (x := .mk nk nt ns (IntKind.i64.wrap (0 - nm)) nl) (s' := s2p) (by rw [enc_mk]) (by simp [n1, n2, m1, m2, m3, m4]) k
        | false =>
          rw [c3p, cond_false] at k
          cases c4p : (nk == 21) with
          | true =>
            rw [c4p, cond_true] at k
            simp (maxSteps := 1000000) only [c2p, c3p, c4p, n1, n2, m1, m2, m3, m4, Bool.not_true, xBits, xFrom, retD_ret, leav_nil, finD, tb85p_e, zzK, seval]
            exact mid_ret (x := .mk nk nt ns (negB nm) nl) (s' := s2p) (by rw [enc_mk]; rfl) (by simp [n1, n2, m1, m2, m3, m4]) k
          | false =>
            rw [c4p, cond_false] at k
            simp (maxSteps := 1000000) only [c2p, c3p, c4p, n1, n2, m1, m2, m3, m4, Bool.not_true, retD_ret, leav_nil, finD, tb85p_e, zzK, seval]
            exact mid_ret (x := .mk nk nt ns nm nl) (s' := s2p) (by rw [enc_mk]) (by simp [n1, n2, m1, m2, m3, m4]) k
def cLit (args : List D) (h : AHeap) (K E : D → AHeap → Prop) : Prop := ∃ (l : List Tok) (s : PS) (id : Nat) , args = [.ptr id 1 0] ∧ WOk l ∧ cP (pLit l) (fun n : Nd => .agg n.enc) l s id h K E
theorem cLit_mono (args : List D) (h : AHeap) (K E K' E' : D → AHeap → Prop) (hk : ∀ d h, K d h → K' d h) (he : ∀ d h, E d h → E' d h) (c : cLit args h K E) : cLit args h K' E' := by
  obtain ⟨l, s, id, a, b, c⟩ := c
  exact ⟨l, s, id, a, b, cP_mono hk he c⟩
theorem cLit_ok (args : List D) (h : AHeap) (K E : D → AHeap → Prop) (c : cLit args h K E) : ACalls Tryz.prog 64 args h (AOut.to K E) := by
  obtain ⟨l, s, id, rfl, hl, c⟩ := c
  exact cP_ok (fun ok K0 E0 hw => lit_c l hl s id  ok K0 E0 hw) c
def tb64p : Tab := tb85p.addE 64 cLit cLit_mono
theorem tb64p_q : tb64p.q = tb85p.q := rfl
theorem tb64p_a : tb64p.a = tb85p.a := rfl
theorem tb64p_c (g : FuncId) (args : List D) (h : AHeap) (K E : D → AHeap → Prop) : tb64p.c g args h K E = if g = 64 then cLit args h K E else tb85p.c g args h K E := rfl
theorem tb64p_ok : tb64p.ok Tryz.prog := Tab.addE_ok tb85p_ok cLit_ok
theorem tb64p_e : type_of% (And.intro (And.intro @tb64p_q (And.intro @tb64p_a @tb64p_c)) @tb85p_e) := (And.intro (And.intro @tb64p_q (And.intro @tb64p_a @tb64p_c)) @tb85p_e)
end
end Go.Proofs.YtpagdhbmbnoddaaGreatDoor.Zz
namespace Go.Proofs.YtpagdhbmbnoddaaGreatDoor.Zz
noncomputable section
def Nd.setKids (n : Nd) (l : List Nd) : Nd := match n with
  | .mk k t s m _ => .mk k t s m l
def Nd.kidsOf : Nd → List Nd
  | .mk _ _ _ _ l => l
def Nd.addKid (n x : Nd) : Nd := match n with
  | .mk k t s m l => .mk k t s m (l ++ [x])
def Nd.setT (n : Nd) (t : Int) : Nd := match n with
  | .mk k _ s m l => .mk k t s m l
structure PRec where
  expr : Int → PS → PR Nd
  unary : PS → PR Nd
  call : List UInt8 → PS → PR Nd
  block : PS → PR Nd
  stmt : PS → PR Nd
  branch : PS → PR Nd
variable {α β : Type} (l : List Tok) (g : PRec)
def pDeep (body : PS → PR α) (s : PS) : PR α := (pIn l s).bind fun _ s => pOff (body s)
def exprL (least : Int) : Nat → Nd → PS → PR Nd
  | 0, _, _ => .out
  | j + 1, n, s => bif (pNow l s).1 != 5 || decide (rankF (pNow l s).2.1 ≤ least) then .ok n s
    else (g.expr (rankF (pNow l s).2.1) (pStep s)).bind fun r s' => (pNode l (.mk 26 0 (pNow l s).2.1 0 [n, r]) s').bind fun n s => exprL least j n s
def exprG (least : Int) : PS → PR Nd := pDeep l fun s => (g.unary s).bind fun n s => exprL l g least (l.length + 1) n s
def pUn (x : List UInt8) : PS → PR Nd := pDeep l fun s => (g.unary s).bind fun n s => pNode l (.mk 25 0 x 0 [n]) s
def pConv (t : Int) (s : PS) : PR Nd := (pMust l [40] s).bind fun _ s => (g.expr 0 s).bind fun n s => (pNode l (.mk 27 t [] 0 [n]) s).bind fun n s => (pMust l [41] s).bind fun _ s => .ok n s
def unaryG (s : PS) : PR Nd :=
  (pTake l [45] s).bind fun b s => bif b then pUn l g [45] s else
  (pTake l [33] s).bind fun b s => bif b then pUn l g [33] s else
  (pPlain l s).bind fun x s => bif x.2 then .ok x.1 s else
  (pTake l wInt s).bind fun b s => bif b then pConv l g 1 s else
  (pTake l wFloat s).bind fun b s => bif b then pConv l g 2 s else
  (pTake l [40] s).bind fun b s => bif b then (g.expr 0 s).bind fun n s => (pMust l [41] s).bind fun _ s => .ok n s else
  (pName l s).bind fun x s => bif pIs l [40] s then g.call x s else pNode l (.mk 23 0 x 0 []) s
def callL : Nat → Nd → PS → PR Nd
  | 0, _, _ => .out
  | j + 1, n, s => (pTake l [41] s).bind fun b s => bif b then .ok n s else
    (bif decide (n.kidsOf.length > 0) then pMust l [44] s else .ok () s).bind fun _ s =>
    bif decide (n.kidsOf.length ≥ 6) then pFail l 3 s else (g.expr 0 s).bind fun x s => callL j (n.addKid x) s
def callG (x : List UInt8) : PS → PR Nd := pDeep l fun s => (pNode l (.mk 24 0 x 0 []) s).bind fun n s => (pMust l [40] s).bind fun _ s => callL l g (l.length + 1) n s
def blockL : Nat → Nd → PS → PR Nd
  | 0, _, _ => .out
  | j + 1, n, s => (pTake l [125] s).bind fun b s => bif b then .ok n s else
    bif decide (n.kidsOf.length ≥ 32) then pFail l 3 s else (g.stmt s).bind fun x s => blockL j (n.addKid x) s
def blockG : PS → PR Nd := pDeep l fun s => (pMust l [123] s).bind fun _ s => (pNode l (.mk 6 0 [] 0 []) s).bind fun n s => blockL l g (l.length + 1) n s
def pSimple (k : Int) (x : List UInt8) (s : PS) : PR Nd := (pNode l (.mk k 0 x 0 []) s).bind fun n s => (g.expr 0 s).bind fun e s => (pMust l [59] s).bind fun _ s => .ok (n.setKids [e]) s
def wIf : List UInt8 := [105, 102]
def wFor : List UInt8 := [102, 111, 114]
def wReturn : List UInt8 := [114, 101, 116, 117, 114, 110]
def wAssert : List UInt8 := [97, 115, 115, 101, 114, 116]
def wSkip : List UInt8 := [115, 107, 105, 112]
def wElse : List UInt8 := [101, 108, 115, 101]
def stmtG (s : PS) : PR Nd :=
  (pTake l wIf s).bind fun b s => bif b then g.branch s else
  (pTake l wFor s).bind fun b s => bif b then (pNode l (.mk 10 0 [] 0 []) s).bind fun n s => (g.expr 0 s).bind fun e s => (g.block s).bind fun b s => .ok (n.setKids [e, b]) s else
  (pTake l wReturn s).bind fun b s => bif b then pSimple l g 11 [] s else
  (pTake l wAssert s).bind fun b s => bif b then pSimple l g 12 [] s else
  (pTake l wSkip s).bind fun b s => bif b then (pMust l [59] s).bind fun _ s => pNode l (.mk 14 0 [] 0 []) s else
  (pName l s).bind fun x s =>
  (pTake l [58, 61] s).bind fun b s => bif b then pSimple l g 7 x s else
  (pTake l [61] s).bind fun b s => bif b then pSimple l g 8 x s else
  (pNode l (.mk 13 0 [] 0 []) s).bind fun n s => (g.call x s).bind fun c s => (pMust l [59] s).bind fun _ s => .ok (n.setKids [c]) s
def branchG : PS → PR Nd := pDeep l fun s => (pNode l (.mk 9 0 [] 0 []) s).bind fun n s => (g.expr 0 s).bind fun e s => (g.block s).bind fun b s =>
  (pTake l wElse s).bind fun t s => bif !t then .ok (n.setKids [e, b]) s else
  (pTake l wIf s).bind fun t s => bif t then (pNode l (.mk 6 0 [] 0 []) s).bind fun m s => (g.branch s).bind fun x s => .ok ((n.setKids [e, b]).addKid (m.setKids [x])) s
  else (g.block s).bind fun b2 s => .ok ((n.setKids [e, b]).addKid b2) s
def psF : Nat → PRec
  | 0 => ⟨fun _ _ => .out, fun _ => .out, fun _ _ => .out, fun _ => .out, fun _ => .out, fun _ => .out⟩
  | f + 1 => ⟨exprG l (psF f), unaryG l (psF f), callG l (psF f), blockG l (psF f), stmtG l (psF f), branchG l (psF f)⟩
def wVar : List UInt8 := [118, 97, 114]
def wTest : List UInt8 := [116, 101, 115, 116]
def wFunc : List UInt8 := [102, 117, 110, 99]
def paramL : Nat → Nd → PS → PR Nd
  | 0, _, _ => .out
  | j + 1, n, s => (pTake l [41] s).bind fun b s => bif b then .ok n s else
    (bif decide (n.kidsOf.length > 0) then pMust l [44] s else .ok () s).bind fun _ s =>
    bif decide (n.kidsOf.length ≥ 6) then pFail l 3 s else
    (pName l s).bind fun x s => (pTyp l s).bind fun t s => (pNode l (.mk 5 t x 0 []) s).bind fun m s => paramL j (n.addKid m) s
def declG (s : PS) : PR Nd :=
  (pTake l wVar s).bind fun b s => bif b then (pName l s).bind fun x s => (pTyp l s).bind fun t s => (pNode l (.mk 2 t x 0 []) s).bind fun n s => (pMust l [61] s).bind fun _ s => (pLit l s).bind fun v s => (pMust l [59] s).bind fun _ s => .ok (n.setKids [v]) s else
  (pTake l wTest s).bind fun b s => bif b then (pName l s).bind fun x s => (pNode l (.mk 4 0 x 0 []) s).bind fun n s => (g.block s).bind fun b s => .ok (n.setKids [b]) s else
  (pMust l wFunc s).bind fun _ s => (pName l s).bind fun x s => (pNode l (.mk 3 0 x 0 []) s).bind fun n s => (pMust l [40] s).bind fun _ s =>
  (paramL l (l.length + 1) n s).bind fun n s => (pTyp l s).bind fun t s => (g.block s).bind fun b s => .ok ((n.setT t).addKid b) s
def progL : Nat → Int → Int → Nd → PS → PR Nd
  | 0, _, _, _, _ => .out
  | j + 1, fs, gs, n, s => bif (pNow l s).1 != 0 then
      (let gs' := bif pIs l wVar s then gs + 1 else gs
       let fs' := bif pIs l wVar s then fs else fs + 1
       bif decide (gs' > 16) || decide (fs' > 32) then pFail l 3 s else (declG l g s).bind fun d s => progL j fs' gs' (n.addKid d) s)
    else .ok n s
def progG (s : PS) : PR Nd := (pNode l (.mk 1 0 [] 0 []) s).bind fun n s => progL l g (l.length + 1) 0 0 n s
def parseF (f : Nat) (x : List UInt8) : Option (Nd × Int × Int) :=
  if (tokens x).2.2 = 0 then
    match progG (tokens x).1 (psF (tokens x).1 f) ⟨0, 0, 0⟩ with
    | .ok n _ => some (n, 0, 0)
    | .fail a e => some (.mk 0 0 [] 0 [], a, e)
    | .out => none
  else some (.mk 0 0 [] 0 [], (tokens x).2.1, (tokens x).2.2)
end
section
variable {α β : Type}
def keeps (r : PR α) (d : Int) : Prop := ∀ x s, r = .ok x s → s.deep = d
theorem keeps_ok {x : α} {s : PS} {d : Int} (h : s.deep = d) : keeps (.ok x s) d := fun y s' e => by cases e; exact h
theorem keeps_fail {a e d : Int} : keeps (.fail a e : PR α) d := fun y s' e => by cases e
theorem keeps_out {d : Int} : keeps (.out : PR α) d := fun y s' e => by cases e
theorem keeps_bind {r : PR α} {k : α → PS → PR β} {d d' : Int} (h : keeps r d) (hk : ∀ x s, s.deep = d → keeps (k x s) d') : keeps (r.bind k) d' := by
  cases r with
  | ok x s => exact hk x s (h x s rfl)
  | fail => exact keeps_fail
  | out => exact keeps_out
theorem keeps_cond {c : Bool} {r r' : PR α} {d : Int} (h : keeps r d) (h' : keeps r' d) : keeps (bif c then r else r') d := by cases c <;> assumption
variable {l : List Tok} {g : PRec}
theorem keeps_pFail {e : Int} {s : PS} {d : Int} : keeps (pFail l e s : PR α) d := keeps_fail
theorem keeps_pTake {x : List UInt8} {s : PS} : keeps (pTake l x s) s.deep := keeps_cond (keeps_ok rfl) (keeps_ok rfl)
theorem keeps_pMust {x : List UInt8} {s : PS} : keeps (pMust l x s) s.deep := keeps_cond (keeps_ok rfl) keeps_fail
theorem keeps_pName {s : PS} : keeps (pName l s) s.deep := keeps_cond (keeps_ok rfl) keeps_fail
theorem keeps_pTyp {s : PS} : keeps (pTyp l s) s.deep := keeps_cond (keeps_ok rfl) (keeps_cond (keeps_ok rfl) (keeps_cond (keeps_ok rfl) keeps_fail))
theorem keeps_pNode {n : Nd} {s : PS} : keeps (pNode l n s) s.deep := by
  unfold pNode
  split
  · exact keeps_fail
  · exact keeps_ok rfl
theorem keeps_pPlain {s : PS} : keeps (pPlain l s) s.deep := by
  have hgo : ∀ n : Nd, keeps ((pNode l n (pStep s)).bind fun n s => .ok (n, true) s) s.deep := fun n => keeps_bind keeps_pNode fun x s' e => keeps_ok e
  unfold pPlain
  exact keeps_cond (hgo _) (keeps_cond (hgo _) (keeps_cond (hgo _) (keeps_cond (hgo _) (keeps_ok rfl))))
theorem keeps_pLit {s : PS} : keeps (pLit l s) s.deep := by
  unfold pLit
  refine keeps_bind keeps_pTake fun mi s1p e1 => keeps_bind (d := s1p.deep) keeps_pPlain fun x s2p e2 => keeps_cond keeps_pFail (keeps_ok ?_)
  rw [e2, e1]
theorem keeps_pDeep {body : PS → PR α} {s : PS} (h : ∀ s', keeps (body s') s'.deep) : keeps (pDeep l body s) s.deep := by
  unfold pDeep pIn
  split
  · exact keeps_fail
  · refine keeps_bind (d := s.deep + 1) (keeps_ok rfl) fun _ s1p e1 => keeps_bind (h s1p) fun x s' e => keeps_ok ?_
    rw [e, e1]; simp only; omega
structure PKeep (g : PRec) : Prop where
  expr : ∀ k s, keeps (g.expr k s) s.deep
  unary : ∀ s, keeps (g.unary s) s.deep
  call : ∀ x s, keeps (g.call x s) s.deep
  block : ∀ s, keeps (g.block s) s.deep
  stmt : ∀ s, keeps (g.stmt s) s.deep
  branch : ∀ s, keeps (g.branch s) s.deep
theorem keeps_of {r : PR α} {s : PS} {d : Int} (e : s.deep = d) (h : keeps r s.deep) : keeps r d := e ▸ h
variable (hg : PKeep g)
include hg
theorem keeps_exprL {k : Int} : ∀ (j : Nat) (n : Nd) (s : PS) (d : Int), s.deep = d → keeps (exprL l g k j n s) d
  | 0, n, s, d, e => keeps_out
  | j + 1, n, s, d, e => by
    unfold exprL
    refine keeps_cond (keeps_ok e) (keeps_bind (d := d) (keeps_of (s := pStep s) e (hg.expr _ _)) fun r s1p e1 => keeps_bind (d := d) (keeps_of e1 keeps_pNode) fun n s2p e2 => keeps_exprL j n s2p d e2)
theorem keeps_callL : ∀ (j : Nat) (n : Nd) (s : PS) (d : Int), s.deep = d → keeps (callL l g j n s) d
  | 0, n, s, d, e => keeps_out
  | j + 1, n, s, d, e => by
    unfold callL
    refine keeps_bind (d := d) (keeps_of e keeps_pTake) fun b s1p e1 => keeps_cond (keeps_ok e1) (keeps_bind (d := d) (keeps_cond (keeps_of e1 keeps_pMust) (keeps_ok e1)) fun _ s2p e2 => keeps_cond keeps_pFail (keeps_bind (d := d) (keeps_of e2 (hg.expr _ _)) fun x s3p e3 => keeps_callL j _ s3p d e3))
theorem keeps_blockL : ∀ (j : Nat) (n : Nd) (s : PS) (d : Int), s.deep = d → keeps (blockL l g j n s) d
  | 0, n, s, d, e => keeps_out
  | j + 1, n, s, d, e => by
    unfold blockL
    refine keeps_bind (d := d) (keeps_of e keeps_pTake) fun b s1p e1 => keeps_cond (keeps_ok e1) (keeps_cond keeps_pFail (keeps_bind (d := d) (keeps_of e1 (hg.stmt _)) fun x s3p e3 => keeps_blockL j _ s3p d e3))
theorem keeps_pSimple {k : Int} {x : List UInt8} {s : PS} : keeps (pSimple l g k x s) s.deep := by
  unfold pSimple
  generalize hd : s.deep = d
  repeat' first
    | exact keeps_fail
    | exact keeps_out
    | exact keeps_ok (by first | rfl | assumption)
    | refine keeps_cond ?_ ?_
    | refine keeps_bind (d := d) (keeps_of (by first | rfl | assumption) (by first | exact keeps_pTake | exact keeps_pMust | exact keeps_pName | exact keeps_pTyp | exact keeps_pNode | exact keeps_pPlain | exact keeps_pLit | exact hg.expr _ _ | exact hg.unary _ | exact hg.call _ _ | exact hg.block _ | exact hg.stmt _ | exact hg.branch _)) fun _ _ _ => ?_
    | exact keeps_of (by first | rfl | assumption) (by first | exact keeps_pTake | exact keeps_pMust | exact keeps_pName | exact keeps_pTyp | exact keeps_pNode | exact keeps_pPlain | exact keeps_pLit | exact hg.expr _ _ | exact hg.unary _ | exact hg.call _ _ | exact hg.block _ | exact hg.stmt _ | exact hg.branch _)
    | (refine keeps_bind (d := d) (keeps_cond (keeps_of (by first | rfl | assumption) keeps_pMust) (keeps_ok (by first | rfl | assumption))) fun _ _ _ => ?_)
theorem keeps_pConv {t : Int} {s : PS} : keeps (pConv l g t s) s.deep := by
  unfold pConv
  generalize hd : s.deep = d
  repeat' first
    | exact keeps_fail
    | exact keeps_out
    | exact keeps_ok (by first | rfl | assumption)
    | refine keeps_cond ?_ ?_
    | refine keeps_bind (d := d) (keeps_of (by first | rfl | assumption) (by first | exact keeps_pTake | exact keeps_pMust | exact keeps_pName | exact keeps_pTyp | exact keeps_pNode | exact keeps_pPlain | exact keeps_pLit | exact hg.expr _ _ | exact hg.unary _ | exact hg.call _ _ | exact hg.block _ | exact hg.stmt _ | exact hg.branch _)) fun _ _ _ => ?_
    | exact keeps_of (by first | rfl | assumption) (by first | exact keeps_pTake | exact keeps_pMust | exact keeps_pName | exact keeps_pTyp | exact keeps_pNode | exact keeps_pPlain | exact keeps_pLit | exact hg.expr _ _ | exact hg.unary _ | exact hg.call _ _ | exact hg.block _ | exact hg.stmt _ | exact hg.branch _)
    | (refine keeps_bind (d := d) (keeps_cond (keeps_of (by first | rfl | assumption) keeps_pMust) (keeps_ok (by first | rfl | assumption))) fun _ _ _ => ?_)
theorem keeps_pUn {x : List UInt8} {s : PS} : keeps (pUn l g x s) s.deep := keeps_pDeep fun s' => keeps_bind (hg.unary s') fun n s2p e2 => keeps_of e2 keeps_pNode
theorem keeps_step : PKeep ⟨exprG l g, unaryG l g, callG l g, blockG l g, stmtG l g, branchG l g⟩ where
  expr k s := keeps_pDeep fun s' => keeps_bind (hg.unary s') fun n s2p e2 => keeps_exprL hg _ _ _ _ e2
  unary s := by
    show keeps (unaryG l g s) s.deep
    unfold unaryG
    refine keeps_bind keeps_pTake fun b s1p e1 => keeps_cond (keeps_of e1 (keeps_pUn hg)) (keeps_bind (keeps_of e1 keeps_pTake) fun b s2p e2 => keeps_cond (keeps_of e2 (keeps_pUn hg)) (keeps_bind (keeps_of e2 keeps_pPlain) fun x s3p e3 => keeps_cond (keeps_ok e3)
      (keeps_bind (keeps_of e3 keeps_pTake) fun b s4p e4 => keeps_cond (keeps_of e4 (keeps_pConv hg)) (keeps_bind (keeps_of e4 keeps_pTake) fun b s5p e5 => keeps_cond (keeps_of e5 (keeps_pConv hg)) (keeps_bind (keeps_of e5 keeps_pTake) fun b s6p e6 => keeps_cond
        (keeps_bind (keeps_of e6 (hg.expr _ _)) fun n s7p e7 => keeps_bind (keeps_of e7 keeps_pMust) fun _ s8p e8 => keeps_ok e8)
        (keeps_bind (keeps_of e6 keeps_pName) fun x s7p e7 => keeps_cond (keeps_of e7 (hg.call _ _)) (keeps_of e7 keeps_pNode)))))))
  call x s := keeps_pDeep fun s' => keeps_bind keeps_pNode fun n s2p e2 => keeps_bind (keeps_of e2 keeps_pMust) fun _ s3p e3 => keeps_callL hg _ _ _ _ e3
  block s := keeps_pDeep fun s' => keeps_bind keeps_pMust fun _ s2p e2 => keeps_bind (keeps_of e2 keeps_pNode) fun _ s3p e3 => keeps_blockL hg _ _ _ _ e3
  stmt s := by
    show keeps (stmtG l g s) s.deep
    unfold stmtG
    refine keeps_bind keeps_pTake fun b s1p e1 => keeps_cond (keeps_of e1 (hg.branch _)) (keeps_bind (keeps_of e1 keeps_pTake) fun b s2p e2 => keeps_cond
      (keeps_bind (keeps_of e2 keeps_pNode) fun n s3p e3 => keeps_bind (keeps_of e3 (hg.expr _ _)) fun e s4p e4 => keeps_bind (keeps_of e4 (hg.block _)) fun b s5p e5 => keeps_ok e5)
      (keeps_bind (keeps_of e2 keeps_pTake) fun b s3p e3 => keeps_cond (keeps_of e3 (keeps_pSimple hg)) (keeps_bind (keeps_of e3 keeps_pTake) fun b s4p e4 => keeps_cond (keeps_of e4 (keeps_pSimple hg))
        (keeps_bind (keeps_of e4 keeps_pTake) fun b s5p e5 => keeps_cond (keeps_bind (keeps_of e5 keeps_pMust) fun _ s6p e6 => keeps_of e6 keeps_pNode)
          (keeps_bind (keeps_of e5 keeps_pName) fun x s6p e6 => keeps_bind (keeps_of e6 keeps_pTake) fun b s7p e7 => keeps_cond (keeps_of e7 (keeps_pSimple hg)) (keeps_bind (keeps_of e7 keeps_pTake) fun b s8p e8 => keeps_cond (keeps_of e8 (keeps_pSimple hg))
            (keeps_bind (keeps_of e8 keeps_pNode) fun n s9p e9 => keeps_bind (keeps_of e9 (hg.call _ _)) fun c t1 f1 => keeps_bind (keeps_of f1 keeps_pMust) fun _ t2 f2 => keeps_ok f2)))))))
  branch s := keeps_pDeep fun s' => keeps_bind keeps_pNode fun n s2p e2 => keeps_bind (keeps_of e2 (hg.expr _ _)) fun e s3p e3 => keeps_bind (keeps_of e3 (hg.block _)) fun b s4p e4 => keeps_bind (keeps_of e4 keeps_pTake) fun t s5p e5 => keeps_cond (keeps_ok e5)
    (keeps_bind (keeps_of e5 keeps_pTake) fun t s6p e6 => keeps_cond (keeps_bind (keeps_of e6 keeps_pNode) fun m s7p e7 => keeps_bind (keeps_of e7 (hg.branch _)) fun x s8p e8 => keeps_ok e8) (keeps_bind (keeps_of e6 (hg.block _)) fun b2 s7p e7 => keeps_ok e7))
omit hg
theorem keeps_psF (l : List Tok) : ∀ f, PKeep (psF l f)
  | 0 => ⟨fun _ _ => keeps_out, fun _ => keeps_out, fun _ _ => keeps_out, fun _ => keeps_out, fun _ => keeps_out, fun _ => keeps_out⟩
  | f + 1 => keeps_step (keeps_psF l f)
end
end Go.Proofs.YtpagdhbmbnoddaaGreatDoor.Zz
namespace Go.Proofs.YtpagdhbmbnoddaaGreatDoor.Zz
noncomputable section
def p105p : Plan := ⟨⟨[], [(1, 1), (2, 1), (3, 1), (8, 6), (8, 9)], [], [((8, 6), [(.t 6), (.t 5)])], [((8, 2), (.t 6))], []⟩, [(8, [0, 1, 2, 3, 4, 5, 6, 7, 8, 9, 10])], [], false⟩
def s105p : Stm :=
 .seq (.ops [⟨.alloc [(.int .i64 0), (.int .i64 0), (.str []), (.int .i64 0), .nilsl], some 4, none, false⟩])
 (.seq (.seq (.ops [⟨.mov (.t 0), some 8, none, true⟩,
 ⟨.call (.f 86) [(.t 8)], some 9, none, false⟩])
 (.defer (.t 9) []))
 (.seq (.ops [⟨.mov (.t 0), some 10, none, true⟩,
 ⟨.call (.f 131) [(.t 10)], some 11, none, false⟩,
 ⟨.alloc [(.int .i64 0), (.int .i64 0), (.str []), (.int .i64 0), .nilsl], some 5, none, false⟩,
 ⟨.store 5 (.t 5) (.t 11), none, none, false⟩])
 (.block 0 (.loop (.block 1 (.seq (.ops [⟨.mov (.t 0), some 12, none, true⟩,
 ⟨.call (.f 33) [(.t 12)], some 13, none, false⟩,
 ⟨.alloc [(.int .i64 0), (.str []), (.int .i64 0)], some 6, none, false⟩,
 ⟨.store 3 (.t 6) (.t 13), none, none, false⟩])
 (.seq (.ops [⟨.fieldAddr 1 (.t 6), some 14, none, true⟩,
 ⟨.load none (.t 14), some 15, none, false⟩,
 ⟨.qcall (.f 132) [(.t 15)], some 16, none, false⟩,
 ⟨.mov (.t 16), some 7, none, true⟩])
 (.seq (.seq (.ops [⟨.fieldAddr 0 (.t 6), some 17, none, true⟩,
 ⟨.load none (.t 17), some 18, none, false⟩,
 ⟨.bin .neq (.t 18) (.c (.int .i64 5)), some 19, none, true⟩,
 ⟨.mov (.t 19), some 20, none, true⟩,
 ⟨.mov (.t 7), some 21, (some (20, false)), true⟩,
 ⟨.mov (.t 1), some 22, (some (20, false)), true⟩,
 ⟨.bin .leq (.t 21) (.t 22), some 23, (some (20, false)), true⟩,
 ⟨.pick (.t 20) (.c (.bool true)) (.t 23), some 24, none, true⟩])
 (.cond (.t 24)
 (.seq (.ops [⟨.load (some 5) (.t 5), some 25, none, false⟩,
 ⟨.store 5 (.t 4) (.t 25), none, none, false⟩])
 (.ret))
 (.skip)))
 (.seq (.ops [⟨.mov (.t 0), some 26, none, true⟩,
 ⟨.nilCheck (.t 26), some 27, none, true⟩,
 ⟨.fieldAddr 1 (.t 27), some 28, none, true⟩,
 ⟨.load none (.t 28), some 29, none, false⟩,
 ⟨.bin .add (.t 29) (.c (.int .i64 1)), some 30, none, true⟩,
 ⟨.nilCheck (.t 26), some 31, none, true⟩,
 ⟨.fieldAddr 1 (.t 31), some 32, none, true⟩,
 ⟨.store 1 (.t 32) (.t 30), none, none, false⟩])
 (.opsD 33 [⟨.mov (.t 0), some 33, none, true⟩,
 ⟨.fieldAddr 1 (.t 6), some 34, none, true⟩,
 ⟨.loadOf none (.t 34) (.t 6), some 35, none, false⟩,
 ⟨.load (some 5) (.t 5), some 36, none, false⟩,
 ⟨.mov (.t 0), some 37, none, true⟩,
 ⟨.mov (.t 7), some 38, none, true⟩,
 ⟨.callNe (.f 105) [(.t 37), (.t 38)] [(.t 6), (.t 5)], some 39, none, false⟩,
 ⟨.buildSlice 5 [(.int .i64 0), (.int .i64 0), (.str []), (.int .i64 0), .nilsl] 2 [(0, (.t 36)), (1, (.t 39))] false, some 40, none, true⟩,
 ⟨.build [(.int .i64 0), (.int .i64 0), (.str []), (.int .i64 0), .nilsl] [(0, 1, (.c (.int .i64 26))), (2, 1, (.t 35)), (4, 1, (.t 40))], some 41, none, true⟩,
 ⟨.call (.f 32) [(.t 33), (.t 41)], some 42, none, false⟩,
 ⟨.store 5 (.t 5) (.t 42), none, none, false⟩]))))))))))
theorem st105p : stmOf Tryz.prog 105 p105p = some (s105p, [.cell 4 (some 5)], 43) := by kernel_rfl
def p106p : Plan := ⟨⟨[], [(1, 4), (2, 1), (3, 1)], [], [], [], []⟩, [], [], false⟩
def s106p : Stm :=
 .seq (.ops [⟨.alloc [(.int .i64 0), (.int .i64 0), (.str []), (.int .i64 0), .nilsl], some 6, none, false⟩])
 (.seq (.ops [⟨.mov (.t 0), some 8, none, true⟩,
 ⟨.mov (.t 1), some 9, none, true⟩,
 ⟨.mov (.t 2), some 10, none, true⟩,
 ⟨.build [(.int .i64 0), (.int .i64 0), (.str []), (.int .i64 0), .nilsl] [(0, 1, (.t 9)), (2, 1, (.t 10))], some 11, none, true⟩,
 ⟨.call (.f 32) [(.t 8), (.t 11)], some 12, none, false⟩,
 ⟨.alloc [(.int .i64 0), (.int .i64 0), (.str []), (.int .i64 0), .nilsl], some 7, none, false⟩,
 ⟨.store 5 (.t 7) (.t 12), none, none, false⟩])
 (.seq (.ops [⟨.mov (.t 0), some 13, none, true⟩,
 ⟨.call (.f 105) [(.t 13), (.c (.int .i64 0))], some 14, none, false⟩,
 ⟨.buildSlice 5 [(.int .i64 0), (.int .i64 0), (.str []), (.int .i64 0), .nilsl] 1 [(0, (.t 14))] false, some 15, none, true⟩,
 ⟨.fieldAddr 4 (.t 7), some 16, none, true⟩,
 ⟨.store 1 (.t 16) (.t 15), none, none, false⟩])
 (.seq (.ops [⟨.mov (.t 0), some 17, none, true⟩,
 ⟨.call (.f 63) [(.t 17), (.c (.str [59]))], some 18, none, false⟩])
 (.seq (.ops [⟨.load (some 5) (.t 7), some 19, none, false⟩,
 ⟨.store 5 (.t 6) (.t 19), none, none, false⟩])
 (.ret)))))
theorem st106p : stmOf Tryz.prog 106 p106p = some (s106p, [.cell 6 (some 5)], 20) := by kernel_rfl
theorem wpR_mono' {α : Type} {r : PR α} {K K' : α → PS → Prop} {E E' : Int → Int → Prop} (hk : ∀ x s, r = .ok x s → K x s → K' x s) (he : ∀ a e, E a e → E' a e) (h : wpR r K E) : wpR r K' E' := by
  cases r with
  | ok x s => exact hk _ _ rfl h
  | fail a e => exact he _ _ h
  | out => exact h
abbrev encN (n : Nd) : D := .agg n.enc
def cGe (G : List Tok → PRec) (args : List D) (h : AHeap) (K E : D → AHeap → Prop) : Prop := ∃ (l : List Tok) (s : PS) (id : Nat) (k : Int), args = [.ptr id 1 0, .int .i64 k] ∧ WOk l ∧ cP ((G l).expr k) encN l s id h K E
def cGu (G : List Tok → PRec) (args : List D) (h : AHeap) (K E : D → AHeap → Prop) : Prop := ∃ (l : List Tok) (s : PS) (id : Nat), args = [.ptr id 1 0] ∧ WOk l ∧ cP (G l).unary encN l s id h K E
def cGc (G : List Tok → PRec) (args : List D) (h : AHeap) (K E : D → AHeap → Prop) : Prop := ∃ (l : List Tok) (s : PS) (id : Nat) (x : List UInt8), args = [.ptr id 1 0, .str x] ∧ WOk l ∧ cP ((G l).call x) encN l s id h K E
def cGb (G : List Tok → PRec) (args : List D) (h : AHeap) (K E : D → AHeap → Prop) : Prop := ∃ (l : List Tok) (s : PS) (id : Nat), args = [.ptr id 1 0] ∧ WOk l ∧ cP (G l).block encN l s id h K E
def cGs (G : List Tok → PRec) (args : List D) (h : AHeap) (K E : D → AHeap → Prop) : Prop := ∃ (l : List Tok) (s : PS) (id : Nat), args = [.ptr id 1 0] ∧ WOk l ∧ cP (G l).stmt encN l s id h K E
def cGr (G : List Tok → PRec) (args : List D) (h : AHeap) (K E : D → AHeap → Prop) : Prop := ∃ (l : List Tok) (s : PS) (id : Nat), args = [.ptr id 1 0] ∧ WOk l ∧ cP (G l).branch encN l s id h K E
theorem cGe_mono (G : List Tok → PRec) (args : List D) (h : AHeap) (K E K' E' : D → AHeap → Prop) (hk : ∀ d h, K d h → K' d h) (he : ∀ d h, E d h → E' d h) (c : cGe G args h K E) : cGe G args h K' E' := by
  obtain ⟨l, s, id, k, a, b, c⟩ := c
  exact ⟨l, s, id, k, a, b, cP_mono hk he c⟩
theorem cGu_mono (G : List Tok → PRec) (args : List D) (h : AHeap) (K E K' E' : D → AHeap → Prop) (hk : ∀ d h, K d h → K' d h) (he : ∀ d h, E d h → E' d h) (c : cGu G args h K E) : cGu G args h K' E' := by
  obtain ⟨l, s, id, a, b, c⟩ := c
  exact ⟨l, s, id, a, b, cP_mono hk he c⟩
theorem cGc_mono (G : List Tok → PRec) (args : List D) (h : AHeap) (K E K' E' : D → AHeap → Prop) (hk : ∀ d h, K d h → K' d h) (he : ∀ d h, E d h → E' d h) (c : cGc G args h K E) : cGc G args h K' E' := by
  obtain ⟨l, s, id, k, a, b, c⟩ := c
  exact ⟨l, s, id, k, a, b, cP_mono hk he c⟩
theorem cGb_mono (G : List Tok → PRec) (args : List D) (h : AHeap) (K E K' E' : D → AHeap → Prop) (hk : ∀ d h, K d h → K' d h) (he : ∀ d h, E d h → E' d h) (c : cGb G args h K E) : cGb G args h K' E' := by
  obtain ⟨l, s, id, a, b, c⟩ := c
  exact ⟨l, s, id, a, b, cP_mono hk he c⟩
theorem cGs_mono (G : List Tok → PRec) (args : List D) (h : AHeap) (K E K' E' : D → AHeap → Prop) (hk : ∀ d h, K d h → K' d h) (he : ∀ d h, E d h → E' d h) (c : cGs G args h K E) : cGs G args h K' E' := by
  obtain ⟨l, s, id, a, b, c⟩ := c
  exact ⟨l, s, id, a, b, cP_mono hk he c⟩
theorem cGr_mono (G : List Tok → PRec) (args : List D) (h : AHeap) (K E K' E' : D → AHeap → Prop) (hk : ∀ d h, K d h → K' d h) (he : ∀ d h, E d h → E' d h) (c : cGr G args h K E) : cGr G args h K' E' := by
  obtain ⟨l, s, id, a, b, c⟩ := c
  exact ⟨l, s, id, a, b, cP_mono hk he c⟩
def tbG (G : List Tok → PRec) : Tab := (((((tb64p.addE 105 (cGe G) (cGe_mono G)).addE 131 (cGu G) (cGu_mono G)).addE 107 (cGc G) (cGc_mono G)).addE 65 (cGb G) (cGb_mono G)).addE 87 (cGs G) (cGs_mono G)).addE 104 (cGr G) (cGr_mono G)
theorem tbG_q {G : List Tok → PRec} : (tbG G).q = tb64p.q := rfl
theorem tbG_a {G : List Tok → PRec} : (tbG G).a = tb64p.a := rfl
theorem tbG_c {G : List Tok → PRec} (g : FuncId) (args : List D) (h : AHeap) (K E : D → AHeap → Prop) : (tbG G).c g args h K E = if g = 104 then cGr G args h K E else if g = 87 then cGs G args h K E else if g = 65 then cGb G args h K E else if g = 107 then cGc G args h K E else if g = 131 then cGu G args h K E else if g = 105 then cGe G args h K E else tb64p.c g args h K E := rfl
theorem tbG_e : type_of% (And.intro (And.intro @tbG_q (And.intro @tbG_a @tbG_c)) @tb64p_e) := (And.intro (And.intro @tbG_q (And.intro @tbG_a @tbG_c)) @tb64p_e)
theorem push_id {id : Nat} (h : AHeap) (j : Nat) (B C : AObj) (e : ¬ j = id) : (h.set j B).set id C = (h.set id C).set j B := AHeap.ext fun q => by
  simp only [AHeap.set_f]
  by_cases c1p : q = id
  · subst c1p
    have : ¬ q = j := fun x => e x.symm
    simp [this]
  · simp [c1p]
theorem set5 {a b c d e : D} (n : Nd) : setAt [a, b, c, d, e] 0 n.enc = n.enc := by
  obtain ⟨k, t, s, m, l⟩ := n
  rw [enc_mk]; rfl
theorem take5 (n : Nd) : n.enc.take 5 = n.enc := by
  obtain ⟨k, t, s, m, l⟩ := n
  rw [enc_mk]; rfl
theorem setE (m n : Nd) : setAt m.enc 0 n.enc = n.enc := by
  obtain ⟨k, t, s, v, l⟩ := m
  rw [enc_mk, set5]
theorem simple_c (G : List Tok → PRec) (hT : (tbG G).ok Tryz.prog) (l : List Tok) (hl : WOk l) (s : PS) (i1 : Nat) (kd : Int) (x : List UInt8) (ok : PSok l s) (K0 : Nd → PS → Prop) (E0 : Int → Int → Prop) (hw : wpR (pSimple l (G l) kd x s) (fun x s' => PSok l s' → K0 x s') E0) : ACalls Tryz.prog 106 [.ptr i1 1 0, .int .i64 kd, .str x] (AHeap.emp.set i1 (pObj l s)) (retP encN l i1 K0 E0) := by
  refine ACalls.of_stmD hT (dc := DTab.none) (fun _ _ => DTab.none_ok) (by kernel_rfl) st106p (by simp) ?_
  rw [vc_todo]
  have hp := fun (h : AHeap) (j : Nat) (B C : AObj) => push_id (id := i1) h j B C
  unfold pSimple at hw
  rw [wpR_bind] at hw
  simp (maxSteps := 1000000) only [s106p, hp, hp, len_enc, enc_ok, enc_unnil, part_enc, take5, set5, setE, retD_ret, retD_normal, leav_nil, leav_func, finD, tbG_e, tb64p_e, zzK, seval]
  intro i2 a2_1 b2_1
  refine .inl ⟨l, s, i1, .mk kd 0 x 0 [], by simp only [enc_mk, encs_nil], hl.lo, (by simp [a2_1, b2_1]), ok, wpR_mono (fun n s1p k ok1 => ?_) (fun a e k s' => ?_) hw⟩
  case refine_2 =>
    simp only [panD, leav_nil, finD]
    exact mid_pan (s' := s') (by simp [a2_1, b2_1]) k
  obtain ⟨nk, nt, ns, nm, nl⟩ := n
  rw [wpR_bind] at k
  simp (maxSteps := 1000000) only [enc_mk, hp, a2_1, b2_1, len_enc, enc_ok, enc_unnil, part_enc, take5, set5, setE, retD_ret, retD_normal, leav_nil, leav_func, finD, tbG_e, tb64p_e, zzK, seval]
  intro i3 a3_2 b3_2 a3_1 b3_1
  refine ⟨l, s1p, i1, 0, rfl, hl, (by simp [a2_1, b2_1, a3_2, b3_2, a3_1, b3_1]), ok1, wpR_mono (fun e s2p k ok2 => ?_) (fun a e k s' => ?_) k⟩
  case refine_2 =>
    simp only [panD, leav_nil, finD]
    exact mid_pan (s' := s') (by simp [a2_1, b2_1, a3_2, b3_2, a3_1, b3_1]) k
  rw [wpR_bind] at k
  simp (maxSteps := 1000000) only [hp, a2_1, b2_1, a3_2, b3_2, a3_1, b3_1, len_enc, enc_ok, enc_unnil, part_enc, take5, set5, setE, retD_ret, retD_normal, leav_nil, leav_func, finD, tbG_e, tb64p_e, zzK, seval]
  refine ⟨l, s2p, i1, [59], rfl, hl.lo, (by simp [a2_1, b2_1, a3_2, b3_2, a3_1, b3_1]), ok2, wpR_mono (fun _ s3p k ok3 => ?_) (fun a e k s' => ?_) k⟩
  case refine_2 =>
    simp only [panD, leav_nil, finD]
    exact mid_pan (s' := s') (by simp [a2_1, b2_1, a3_2, b3_2, a3_1, b3_1]) k
  rw [wpR_ok] at k
  simp (maxSteps := 1000000) only [hp, a2_1, b2_1, a3_2, b3_2, a3_1, b3_1, len_enc, enc_ok, enc_unnil, part_enc, take5, set5, setE, retD_ret, retD_normal, leav_nil, leav_func, finD, tbG_e, tb64p_e, zzK, seval]
  exact mid_ret (x := .mk nk nt ns nm [e]) (s' := s3p) (by rw [encN, enc_mk, encs_cons, encs_nil]) (by simp [a2_1, b2_1, a3_2, b3_2, a3_1, b3_1]) (k ok3)
theorem deepOk {l : List Tok} {s s' : PS} (ok : PSok l s) (ok' : PSok l s') (e : s'.deep = s.deep + 1) : PSok l { s' with deep := s'.deep - 1 } ∧ IntKind.i64.wrap (s'.deep - 1) = s'.deep - 1 := by
  obtain ⟨h1, h2, h3, h4, h5, h6⟩ := ok
  obtain ⟨g1, g2, g3, g4, g5, g6⟩ := ok'
  exact ⟨⟨g1, g2, g3, g4, by simp only; omega, by simp only; omega⟩, wrap_i64 (by omega) (by omega)⟩
theorem deepIn {l : List Tok} {s : PS} (ok : PSok l s) (h : ¬ s.deep + 1 > 40) : PSok l { s with deep := s.deep + 1 } := by
  obtain ⟨h1, h2, h3, h4, h5, h6⟩ := ok
  exact ⟨h1, h2, h3, h4, by simp only; omega, by simp only; omega⟩
theorem expr_c (G : List Tok → PRec) (hG : ∀ l, PKeep (G l)) (hT : (tbG G).ok Tryz.prog) (l : List Tok) (hl : WOk l) (s : PS) (i1 : Nat) (least : Int) (ok : PSok l s) (K0 : Nd → PS → Prop) (E0 : Int → Int → Prop) (hw : wpR (exprG l (G l) least s) (fun x s' => PSok l s' → K0 x s') E0) : ACalls Tryz.prog 105 [.ptr i1 1 0, .int .i64 least] (AHeap.emp.set i1 (pObj l s)) (retP encN l i1 K0 E0) := by
  refine ACalls.of_stmD hT (dc := dIn) dIn_ok (by kernel_rfl) st105p (by simp) ?_
  rw [vc_todo]
  have hp := fun (h : AHeap) (j : Nat) (B C : AObj) => push_id (id := i1) h j B C
  have w1 : IntKind.i64.wrap (s.deep + 1) = s.deep + 1 := wrap_i64 (by have := ok.d0; omega) (by have := ok.d1; omega)
  unfold exprG pDeep pIn at hw
  rw [wpR_bind] at hw
  simp (maxSteps := 1000000) only [s105p, s86p, pObj, tbG_e, tb64p_e, zzK, seval]
  intro i2 a2_1 b2_1 i3 a3_2 b3_2 a3_1 b3_1
  by_cases c : s.deep + 1 > 40
  · have g : (s.deep + 1 > 40) = True := eq_true c
    rw [if_pos c] at hw
    simp (maxSteps := 1000000) only [g, w1, hp, a2_1, b2_1, a3_2, b3_2, a3_1, b3_1, len_enc, enc_ok, enc_unnil, part_enc, take5, set5, setE, retD_ret, retD_normal, leav_nil, leav_func, finD, tbG_e, tb64p_e, zzK, seval]
    refine ⟨l, { s with deep := s.deep + 1 }, i1, 3, rfl, by simp [pObj, a2_1, b2_1, a3_2, b3_2, a3_1, b3_1], ok.at_, ?_⟩
    simp only [panS, panD, true_and]
    refine ⟨rfl, ?_⟩
    show leav dIn [] (some (stopD _ 3)) _ _
    simp only [leav_nil, finD]
    exact mid_pan (s' := { s with deep := s.deep + 1 }) (by simp [pObj, a2_1, b2_1, a3_2, b3_2, a3_1, b3_1]) hw
  · have g : (s.deep + 1 > 40) = False := eq_false c
    rw [if_neg c, wpR_ok] at hw
    have okd := deepIn ok c
    simp only [pOff, wpR_bind, wpR_ok] at hw
    simp (maxSteps := 1000000) only [g, w1, hp, a2_1, b2_1, a3_2, b3_2, a3_1, b3_1, len_enc, enc_ok, enc_unnil, part_enc, take5, set5, setE, retD_ret, retD_normal, leav_nil, leav_func, finD, tbG_e, tb64p_e, zzK, seval]
    generalize hsd : ({ s with deep := s.deep + 1 } : PS) = sd at *
    have hde : sd.deep = s.deep + 1 := by rw [← hsd]
    refine ⟨l, sd, i1, rfl, hl, by rw [← hsd]; simp [pObj, a2_1, b2_1, a3_2, b3_2, a3_1, b3_1], okd, wpR_mono' (fun n s1p en k ok1 => ?_) (fun a e k s' => ?_) hw⟩
    case refine_2 =>
      simp only [panD, leav_func, leav_nil, List.nil_append, List.append_nil]
      refine ⟨rfl, i3, i1, l, s', rfl, by simp [a2_1, b2_1, a3_2, b3_2, a3_1, b3_1], by simp [a2_1, b2_1, a3_2, b3_2, a3_1, b3_1], ?_⟩
      simp only [finD]
      exact mid_pan (s' := { s' with deep := IntKind.i64.wrap (s'.deep - 1) }) (by simp [a2_1, b2_1, a3_2, b3_2, a3_1, b3_1]) k
    have d1 := (hG l).unary sd n s1p en
    rw [hde] at d1
    simp (maxSteps := 1000000) only [hp, a2_1, b2_1, a3_2, b3_2, a3_1, b3_1, len_enc, enc_ok, enc_unnil, part_enc, take5, set5, setE, retD_ret, retD_normal, leav_nil, leav_func, finD, tbG_e, tb64p_e, zzK, seval]
    intro i4 a4_3 b4_3 a4_2 b4_2 a4_1 b4_1
    refine run_loopD (X := Nat × Nd × PS) [⟨.func 103, [.ptr i3 1 0], []⟩] (fun z => [(0, .ptr i1 1 0), (1, .int .i64 least), (4, .ptr i2 1 0), (5, .ptr i4 1 0)])
      (fun z => (((AHeap.emp.set i1 (pObj l z.2.2)).set i2 (.cells [.int .i64 0, .int .i64 0, .str [], .int .i64 0, .nilsl])).set i3 (.cells [.ptr i1 1 0])).set i4 (.cells z.2.1.enc)) (fun z => z.1)
      (fun z => PSok l z.2.2 ∧ z.2.2.deep = s.deep + 1 ∧ wpR (exprL l (G l) least z.1 z.2.1 z.2.2) (fun x s' => PSok l { s' with deep := s'.deep - 1 } → K0 x { s' with deep := s'.deep - 1 }) E0)
      (l.length + 1, n, s1p) ⟨ok1, d1, k⟩ (by simp only [tb64p_e, zzK, seval]) (AHeap.sub_refl _) ?_
    clear hw hsd en k ok1 d1 n s1p hde okd
    rintro ⟨j, n, s0p⟩ Q ⟨ok0, d0, hw⟩ hQ
    simp only at ok0 d0 hw hQ ⊢
    cases j with
    | zero => exact hw.elim
    | succ j =>
    unfold exprL at hw
    simp (maxSteps := 1000000) only [hp, a2_1, b2_1, a3_2, b3_2, a3_1, b3_1, a4_3, b4_3, a4_2, b4_2, a4_1, b4_1, len_enc, enc_ok, enc_unnil, part_enc, take5, set5, setE, retD_ret, retD_normal, leav_nil, leav_func, finD, tbG_e, tb64p_e, zzK, seval]
    refine ⟨l, s0p, i1, rfl, (by simp [a2_1, b2_1, a3_2, b3_2, a3_1, b3_1, a4_3, b4_3, a4_2, b4_2, a4_1, b4_1]), ok0.at_, ?_⟩
    have hst := pStep_ok hl.lo ok0
    have w2 : IntKind.i64.wrap (s0p.pos + 1) = s0p.pos + 1 := wrap_i64 (by have := ok0.p0p; omega) (by have := ok0.p1p; have := hl.lo.len; omega)
    generalize ht : pNow l s0p = t at *
    obtain ⟨kk, y, a⟩ := t
    simp only at hw hst
    have hq : q132p [.str y] = some (.int .i64 (rankF y)) := rfl
    simp only [tokD]
    simp (maxSteps := 1000000) only [hq, pObj, hp, a2_1, b2_1, a3_2, b3_2, a3_1, b3_1, a4_3, b4_3, a4_2, b4_2, a4_1, b4_1, len_enc, enc_ok, enc_unnil, part_enc, take5, set5, setE, retD_ret, retD_normal, leav_nil, leav_func, finD, tbG_e, tb64p_e, zzK, seval]
    intro i5 a5_4 b5_4 a5_3 b5_3 a5_2 b5_2 a5_1 b5_1
    have fin : ∀ (h : AHeap) (D1 : List D), wpR (.ok n s0p : PR Nd) (fun x s' => PSok l { s' with deep := s'.deep - 1 } → K0 x { s' with deep := s'.deep - 1 }) E0 → K0 n { s0p with deep := s0p.deep - 1 } := fun _ _ h => h (deepOk ok ok0 d0).1
    have wd := (deepOk ok ok0 d0).2
    cases c5p : (kk != 5) with
    | true =>
      rw [c5p, Bool.true_or, cond_true] at hw
      have hw := fin .emp [] hw
      simp (maxSteps := 1000000) only [c5p, hq, pObj, hp, a2_1, b2_1, a3_2, b3_2, a3_1, b3_1, a4_3, b4_3, a4_2, b4_2, a4_1, b4_1, a5_4, b5_4, a5_3, b5_3, a5_2, b5_2, a5_1, b5_1, len_enc, enc_ok, enc_unnil, part_enc, take5, set5, setE, retD_ret, retD_normal, leav_nil, leav_func, finD, tbG_e, tb64p_e, zzK, seval]
      refine ⟨rfl, i3, i1, l, s0p, rfl, by simp [a2_1, b2_1, a3_2, b3_2, a3_1, b3_1, a4_3, b4_3, a4_2, b4_2, a4_1, b4_1, a5_4, b5_4, a5_3, b5_3, a5_2, b5_2, a5_1, b5_1], by simp [pObj, a2_1, b2_1, a3_2, b3_2, a3_1, b3_1, a4_3, b4_3, a4_2, b4_2, a4_1, b4_1, a5_4, b5_4, a5_3, b5_3, a5_2, b5_2, a5_1, b5_1], ?_⟩
      rw [wd]
      simp (maxSteps := 1000000) only [c5p, hq, hp, a2_1, b2_1, a3_2, b3_2, a3_1, b3_1, a4_3, b4_3, a4_2, b4_2, a4_1, b4_1, a5_4, b5_4, a5_3, b5_3, a5_2, b5_2, a5_1, b5_1, len_enc, enc_ok, enc_unnil, part_enc, take5, set5, setE, retD_ret, retD_normal, leav_nil, leav_func, finD, tbG_e, tb64p_e, zzK, seval]
      exact mid_ret (x := n) (s' := { s0p with deep := s0p.deep - 1 }) rfl (by simp [a2_1, b2_1, a3_2, b3_2, a3_1, b3_1, a4_3, b4_3, a4_2, b4_2, a4_1, b4_1, a5_4, b5_4, a5_3, b5_3, a5_2, b5_2, a5_1, b5_1]) hw
    | false =>
    have e5 : kk = 5 := by simpa using c5p
    have ok' := hst (by omega)
    rw [c5p, Bool.false_or] at hw
    by_cases cr : rankF y ≤ least
    · have gr : (rankF y ≤ least) = True := eq_true cr
      rw [show decide (rankF y ≤ least) = true by simpa using cr, cond_true] at hw
      have hw := fin .emp [] hw
      simp (maxSteps := 1000000) only [c5p, hq, gr, pObj, hp, a2_1, b2_1, a3_2, b3_2, a3_1, b3_1, a4_3, b4_3, a4_2, b4_2, a4_1, b4_1, a5_4, b5_4, a5_3, b5_3, a5_2, b5_2, a5_1, b5_1, len_enc, enc_ok, enc_unnil, part_enc, take5, set5, setE, retD_ret, retD_normal, leav_nil, leav_func, finD, tbG_e, tb64p_e, zzK, seval]
      refine ⟨rfl, i3, i1, l, s0p, rfl, by simp [a2_1, b2_1, a3_2, b3_2, a3_1, b3_1, a4_3, b4_3, a4_2, b4_2, a4_1, b4_1, a5_4, b5_4, a5_3, b5_3, a5_2, b5_2, a5_1, b5_1], by simp [pObj, a2_1, b2_1, a3_2, b3_2, a3_1, b3_1, a4_3, b4_3, a4_2, b4_2, a4_1, b4_1, a5_4, b5_4, a5_3, b5_3, a5_2, b5_2, a5_1, b5_1], ?_⟩
      rw [wd]
      simp (maxSteps := 1000000) only [c5p, hq, hp, a2_1, b2_1, a3_2, b3_2, a3_1, b3_1, a4_3, b4_3, a4_2, b4_2, a4_1, b4_1, a5_4, b5_4, a5_3, b5_3, a5_2, b5_2, a5_1, b5_1, len_enc, enc_ok, enc_unnil, part_enc, take5, set5, setE, retD_ret, retD_normal, leav_nil, leav_func, finD, tbG_e, tb64p_e, zzK, seval]
      exact mid_ret (x := n) (s' := { s0p with deep := s0p.deep - 1 }) rfl (by simp [a2_1, b2_1, a3_2, b3_2, a3_1, b3_1, a4_3, b4_3, a4_2, b4_2, a4_1, b4_1, a5_4, b5_4, a5_3, b5_3, a5_2, b5_2, a5_1, b5_1]) hw
    · have gr : (rankF y ≤ least) = False := eq_false cr
      rw [show decide (rankF y ≤ least) = false by simpa using cr, cond_false, wpR_bind] at hw
      simp (maxSteps := 1000000) only [c5p, hq, gr, pObj, w2, hp, a2_1, b2_1, a3_2, b3_2, a3_1, b3_1, a4_3, b4_3, a4_2, b4_2, a4_1, b4_1, a5_4, b5_4, a5_3, b5_3, a5_2, b5_2, a5_1, b5_1, len_enc, enc_ok, enc_unnil, part_enc, take5, set5, setE, retD_ret, retD_normal, leav_nil, leav_func, finD, tbG_e, tb64p_e, zzK, seval]
      refine ⟨l, pStep s0p, i1, rankF y, rfl, hl, by simp [pObj, pStep, a2_1, b2_1, a3_2, b3_2, a3_1, b3_1, a4_3, b4_3, a4_2, b4_2, a4_1, b4_1, a5_4, b5_4, a5_3, b5_3, a5_2, b5_2, a5_1, b5_1], ok', wpR_mono' (fun r s2p er k ok2 => ?_) (fun a e k s' => ?_) hw⟩
      case refine_2 =>
        intro σ hσ _
        simp only [panD]
        rw [hσ]
        show leav dIn [⟨.func 103, [.ptr i3 1 0], []⟩] _ _ _
        simp only [leav_func, leav_nil, List.nil_append]
        refine ⟨rfl, i3, i1, l, s', rfl, by simp [a2_1, b2_1, a3_2, b3_2, a3_1, b3_1, a4_3, b4_3, a4_2, b4_2, a4_1, b4_1, a5_4, b5_4, a5_3, b5_3, a5_2, b5_2, a5_1, b5_1], by simp [a2_1, b2_1, a3_2, b3_2, a3_1, b3_1, a4_3, b4_3, a4_2, b4_2, a4_1, b4_1, a5_4, b5_4, a5_3, b5_3, a5_2, b5_2, a5_1, b5_1], ?_⟩
        simp only [finD]
        exact mid_pan (s' := { s' with deep := IntKind.i64.wrap (s'.deep - 1) }) (by simp [a2_1, b2_1, a3_2, b3_2, a3_1, b3_1, a4_3, b4_3, a4_2, b4_2, a4_1, b4_1, a5_4, b5_4, a5_3, b5_3, a5_2, b5_2, a5_1, b5_1]) k
      have d2 : s2p.deep = s.deep + 1 := ((hG l).expr _ _ r s2p er).trans d0
      rw [wpR_bind] at k
      simp (maxSteps := 1000000) only [encN, hp, a2_1, b2_1, a3_2, b3_2, a3_1, b3_1, a4_3, b4_3, a4_2, b4_2, a4_1, b4_1, a5_4, b5_4, a5_3, b5_3, a5_2, b5_2, a5_1, b5_1, len_enc, enc_ok, enc_unnil, part_enc, take5, set5, setE, retD_ret, retD_normal, leav_nil, leav_func, finD, tbG_e, tb64p_e, zzK, seval]
      refine .inl ⟨l, s2p, i1, .mk 26 0 y 0 [n, r], by simp only [enc_mk, encs_cons, encs_nil], hl.lo, (by simp [a2_1, b2_1, a3_2, b3_2, a3_1, b3_1, a4_3, b4_3, a4_2, b4_2, a4_1, b4_1, a5_4, b5_4, a5_3, b5_3, a5_2, b5_2, a5_1, b5_1]), ok2, wpR_mono' (fun n2 s3p en k ok3 => ?_) (fun a e k s' => ?_) k⟩
      case refine_2 =>
        intro σ hσ _
        simp only [panD]
        rw [hσ]
        show leav dIn [⟨.func 103, [.ptr i3 1 0], []⟩] _ _ _
        simp only [leav_func, leav_nil, List.nil_append]
        refine ⟨rfl, i3, i1, l, s', rfl, by simp [a2_1, b2_1, a3_2, b3_2, a3_1, b3_1, a4_3, b4_3, a4_2, b4_2, a4_1, b4_1, a5_4, b5_4, a5_3, b5_3, a5_2, b5_2, a5_1, b5_1], by simp [a2_1, b2_1, a3_2, b3_2, a3_1, b3_1, a4_3, b4_3, a4_2, b4_2, a4_1, b4_1, a5_4, b5_4, a5_3, b5_3, a5_2, b5_2, a5_1, b5_1], ?_⟩
        simp only [finD]
        exact mid_pan (s' := { s' with deep := IntKind.i64.wrap (s'.deep - 1) }) (by simp [a2_1, b2_1, a3_2, b3_2, a3_1, b3_1, a4_3, b4_3, a4_2, b4_2, a4_1, b4_1, a5_4, b5_4, a5_3, b5_3, a5_2, b5_2, a5_1, b5_1]) k
      have d3 : s3p.deep = s.deep + 1 := (keeps_pNode n2 s3p en).trans d2
      simp (maxSteps := 1000000) only [encN, hp, a2_1, b2_1, a3_2, b3_2, a3_1, b3_1, a4_3, b4_3, a4_2, b4_2, a4_1, b4_1, a5_4, b5_4, a5_3, b5_3, a5_2, b5_2, a5_1, b5_1, len_enc, enc_ok, enc_unnil, part_enc, take5, set5, setE, retD_ret, retD_normal, leav_nil, leav_func, finD, tbG_e, tb64p_e, zzK, seval]
      refine hQ (j, n2, s3p) _ _ ⟨ok3, d3, k⟩ (by simp only [tb64p_e, zzK, seval]) ?_ (by simp only; omega)
      simp only
      exact AHeap.sub_X (by repeat' first | with_reducible exact AHeap.subX_refl | with_reducible exact AHeap.subX_emp | refine AHeap.subX_l (by simp [a2_1, b2_1, a3_2, b3_2, a3_1, b3_1, a4_3, b4_3, a4_2, b4_2, a4_1, b4_1, a5_4, b5_4, a5_3, b5_3, a5_2, b5_2, a5_1, b5_1]) ?_ | refine AHeap.subX_r (by simp [a2_1, b2_1, a3_2, b3_2, a3_1, b3_1, a4_3, b4_3, a4_2, b4_2, a4_1, b4_1, a5_4, b5_4, a5_3, b5_3, a5_2, b5_2, a5_1, b5_1]) ?_)
end
end Go.Proofs.YtpagdhbmbnoddaaGreatDoor.Zz
