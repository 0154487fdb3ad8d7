/- Contracts: a call. -/
import Derived.Test.YtpagdhbmbnoddaaGreatDoorZC3
set_option linter.unnecessarySimpa false
set_option linter.unusedVariables false
set_option linter.unusedSimpArgs false
set_option maxRecDepth 20000
namespace Go.Proofs.YtpagdhbmbnoddaaGreatDoor.Zz
noncomputable section
def p124c : Plan := ⟨⟨[], [(2, 6), (3, 7), (7, 9)], [(7, 5)], [], [], []⟩, [(7, [0, 1, 2, 3, 4, 5, 6, 7, 8, 9])], [], false⟩
def s124c : Stm :=
 .seq (.ops [⟨.mov (.c (.int .i64 0)), some 6, none, true⟩])
 (.seq (.ops [⟨.mov (.t 0), some 12, none, true⟩,
 ⟨.nilCheck (.t 12), some 13, none, true⟩,
 ⟨.fieldAddr 0 (.t 13), some 14, none, true⟩,
 ⟨.load (some 5) (.t 14), some 15, none, false⟩,
 ⟨.mov (.t 1), some 16, none, true⟩,
 ⟨.qcall (.f 100) [(.t 15), (.t 16)], some 17, none, false⟩,
 ⟨.mov (.t 17), some 11, none, true⟩,
 ⟨.extract (.t 11) 0, some 18, none, true⟩,
 ⟨.extract (.t 11) 1, some 19, none, true⟩,
 ⟨.alloc [(.int .i64 0), (.int .i64 0), (.str []), (.int .i64 0), .nilsl], some 7, none, false⟩,
 ⟨.store 5 (.t 7) (.t 18), none, none, false⟩,
 ⟨.mov (.t 19), some 8, none, true⟩])
 (.seq (.ops [⟨.mov (.t 8), some 20, none, true⟩,
 ⟨.mov (.t 20), some 21, none, true⟩,
 ⟨.fieldAddr 0 (.t 7), some 22, (some (21, true)), true⟩,
 ⟨.load none (.t 22), some 23, (some (21, true)), false⟩,
 ⟨.bin .eql (.t 23) (.c (.int .i64 3)), some 24, (some (21, true)), true⟩,
 ⟨.pick (.t 21) (.t 24) (.c (.bool false)), some 25, none, true⟩,
 ⟨.call (.f 49) [(.t 25), (.c (.int .i64 121))], some 26, none, false⟩])
 (.seq (.ops [⟨.mov (.t 2), some 27, none, true⟩,
 ⟨.len .sl (.t 27), some 28, none, false⟩,
 ⟨.fieldAddr 4 (.t 7), some 29, none, true⟩,
 ⟨.load none (.t 29), some 30, none, false⟩,
 ⟨.len .sl (.t 30), some 31, none, false⟩,
 ⟨.bin .sub (.t 31) (.c (.int .i64 1)), some 32, none, true⟩,
 ⟨.bin .eql (.t 28) (.t 32), some 33, none, true⟩,
 ⟨.call (.f 49) [(.t 33), (.c (.int .i64 123))], some 34, none, false⟩])
 (.seq (.seq (.ops [⟨.mov (.t 2), some 35, none, true⟩,
 ⟨.len .sl (.t 35), some 36, none, false⟩,
 ⟨.mov (.c (.int .i64 0)), some 37, none, true⟩])
 (.block 0 (.loop (.seq (.ops [⟨.bin .lss (.t 37) (.t 36), some 38, none, true⟩])
 (.seq (.cond (.t 38)
 (.skip)
 (.exit 0))
 (.seq (.block 1 (.seq (.ops [⟨.mov (.t 37), some 39, none, true⟩,
 ⟨.indexAddrS 5 (.t 35) (.t 37), some 40, none, false⟩,
 ⟨.load (some 5) (.t 40), some 41, none, false⟩,
 ⟨.alloc [(.int .i64 0), (.int .i64 0), (.str []), (.int .i64 0), .nilsl], some 10, none, false⟩,
 ⟨.mov (.t 39), some 9, none, true⟩,
 ⟨.store 5 (.t 10) (.t 41), none, none, false⟩])
 (.opsD 42 [⟨.fieldAddr 1 (.t 10), some 42, none, true⟩,
 ⟨.load none (.t 42), some 43, none, false⟩,
 ⟨.fieldAddr 4 (.t 7), some 44, none, true⟩,
 ⟨.load none (.t 44), some 45, none, false⟩,
 ⟨.mov (.t 9), some 46, none, true⟩,
 ⟨.indexAddrS 5 (.t 45) (.t 46), some 47, none, false⟩,
 ⟨.fieldAddr 1 (.t 47), some 48, none, true⟩,
 ⟨.load none (.t 48), some 49, none, false⟩,
 ⟨.bin .eql (.t 43) (.t 49), some 50, none, true⟩,
 ⟨.call (.f 49) [(.t 50), (.c (.int .i64 122))], some 51, none, false⟩])))
 (.ops [⟨.bin .add (.t 37) (.c (.int .i64 1)), some 52, none, true⟩,
 ⟨.mov (.t 52), some 37, none, true⟩])))))))
 (.seq (.ops [⟨.fieldAddr 1 (.t 7), some 53, none, true⟩,
 ⟨.load none (.t 53), some 54, none, false⟩,
 ⟨.mov (.t 54), some 6, none, true⟩])
 (.ret))))))
theorem st124c : stmOf Tryz.prog 124 p124c = some (s124c, [.tmp 6], 55) := by kernel_rfl
theorem argsF_cons (a : Nd) (ar : List Nd) (b : Nd) (bs : List Nd) : argsF (a :: ar) (b :: bs) = if a.tD == b.tD then argsF ar bs else .error 122 := rfl
theorem argsF_nil (bs : List Nd) : argsF [] bs = .ok () := rfl
theorem drop_consX {α : Type} {l : List α} {i : Nat} {x : α} (h : l[i]? = some x) : l.drop i = x :: l.drop (i + 1) := by
  obtain ⟨hlt, hg⟩ := List.getElem?_eq_some_iff.1 h
  rw [← hg]; exact List.drop_eq_getElem_cons hlt
theorem sub_fr2 {h : AHeap} {i j : Nat} {o p : AObj} (n : h.f i = none) (m : h.f j = none) : h.sub ((h.set i o).set j p) := fun q x hq => by
  have h1 : q ≠ i := fun e => by subst e; rw [n] at hq; cases hq
  have h2 : q ≠ j := fun e => by subst e; rw [m] at hq; cases hq
  simp [h1, h2, hq]
def cCall (args : List D) (h : AHeap) (K E : D → AHeap → Prop) : Prop := ∃ (c : Nat) (p : Nd) (sc : Scp) (dn dt : D) (ans : Int) (s : List UInt8) (al : List Nd), args = [.ptr c 1 0, .str s, .sl (Nd.encs al)] ∧ ScAt h c p sc dn dt ans ∧ crP K E h (some (crR (callF p.lD s al)))
theorem cCall_mono (args : List D) (h : AHeap) (K E K' E' : D → AHeap → Prop) (hk : ∀ d h, K d h → K' d h) (he : ∀ d h, E d h → E' d h) (c : cCall args h K E) : cCall args h K' E' := by
  obtain ⟨c, p, sc, dn, dt, ans, s, al, a, b, k⟩ := c
  exact ⟨c, p, sc, dn, dt, ans, s, al, a, b, crP_mono hk he k⟩
theorem cCall_ok (args : List D) (h : AHeap) (K E : D → AHeap → Prop) (c : cCall args h K E) : ACalls Tryz.prog 124 args h (AOut.to K E) := by
  obtain ⟨c, p, sc, dn, dt, ans, s, al, rfl, hs, k⟩ := c
  refine ACalls.of_stmD tb123c_ok (dc := DTab.none) (fun _ _ => DTab.none_ok) (by kernel_rfl) st124c (by simp) ?_
  rw [vc_todo]
  obtain ⟨kk, t, ss, n, l⟩ := p
  have ho := hs.obj
  rw [cObj_mk] at ho
  simp only [Nd.lD] at k
  unfold callF at k
  simp (maxSteps := 1000000) only [s124c, ho, q100c_mk, tb123c_e, zzK, seval]
  unfold findD
  cases hk : findK l s with
  | none =>
    rw [hk] at k
    simp (maxSteps := 1000000) only [zNd, tb123c_e, zzK, seval]
    intro i1 n1
    simp (maxSteps := 1000000) only [n1, cNeed, q49c, crP_err, cond_false, panD, leav_nil, finD, tb123c_e, zzK, seval]
    exact ⟨h, sub_fr n1, k⟩
  | some o =>
    obtain ⟨k', t', ss', n', l'⟩ := o
    rw [hk] at k
    simp only [Nd.kD, Nd.tD, Nd.lD] at k
    simp (maxSteps := 1000000) only [enc_mk, tb123c_e, zzK, seval]
    intro i1 n1
    cases c1c : (k' == 3) with
    | false =>
      simp only [c1c, Bool.false_eq_true, if_false, crR_err, crP_err] at k
      simp (maxSteps := 1000000) only [n1, c1c, cNeed, q49c, crP_err, cond_false, panD, leav_nil, finD, tb123c_e, zzK, seval]
      first | exact ⟨h, sub_fr n1, k⟩ | exact .inl ⟨h, sub_fr n1, k⟩
    | true =>
      simp only [c1c, if_true] at k
      simp (maxSteps := 1000000) only [n1, c1c, cNeed, q49c, crP_ok, cond_true, len_encs, tb123c_e, zzK, seval]
      intro hl1 hl2
      rw [wrap_i64 (by omega) (by omega)]
      cases c2c : (al.length + 1 == l'.length) with
      | false =>
        simp only [c2c, Bool.false_eq_true, if_false, crR_err, crP_err] at k
        have g : ((al.length : Int) == (l'.length : Int) - 1) = false := by
          simp only [beq_eq_false_iff_ne] at c2c ⊢; omega
        simp (maxSteps := 1000000) only [g, cNeed, q49c, crP_err, cond_false, panD, leav_nil, finD, tb123c_e, zzK, seval]
        first | exact ⟨h, sub_fr n1, k⟩ | exact .inl ⟨h, sub_fr n1, k⟩
      | true =>
        simp only [c2c, if_true] at k
        have hlen : al.length + 1 = l'.length := by simpa using c2c
        have g : ((al.length : Int) == (l'.length : Int) - 1) = true := by
          simp only [beq_iff_eq]; omega
        simp (maxSteps := 1000000) only [g, cNeed, q49c, crP_ok, cond_true, len_encs, tb123c_e, zzK, seval]
        intro hl3
        refine run_loop (X := Nat) (fun i => [(7, .ptr i1 1 0), (35, .sl (Nd.encs al)), (36, .int .i64 (al.length : Int)), (37, .int .i64 i)]) (fun _ => h.set i1 (.cells [.int .i64 k', .int .i64 t', .str ss', .int .i64 n', .sl (Nd.encs l')])) (fun i => al.length - i) (fun i => i ≤ al.length ∧ argsF al l' = argsF (al.drop i) (l'.drop i)) 0 ⟨by omega, rfl⟩ (by simp only [zzK, seval]) (AHeap.sub_refl _) ?_
        rintro i Q ⟨j1, j2⟩ hQ
        by_cases c0c : i < al.length
        · obtain ⟨x, hx⟩ : ∃ x, al[i]? = some x := ⟨_, List.getElem?_eq_getElem c0c⟩
          obtain ⟨y, hy⟩ : ∃ y, l'[i]? = some y := ⟨_, List.getElem?_eq_getElem (by omega)⟩
          have g : ((i : Int) < (al.length : Int)) = True := eq_true (by omega)
          have wi : IntKind.i64.wrap ((i : Int) + 1) = ((i + 1 : Nat) : Int) := wrap_succ (by omega)
          have hac : ∀ (K : D → AHeap → Prop) (h : AHeap), askE 5 K h (Nd.encs al) (i : Int) = K (.eptr x.enc 0) h := fun K h => askE_encs hx
          have hac' : ∀ (K : D → AHeap → Prop) (h : AHeap), askE 5 K h (Nd.encs l') (i : Int) = K (.eptr y.enc 0) h := fun K h => askE_encs hy
          rw [drop_consX hx, drop_consX hy, argsF_cons] at j2
          obtain ⟨xk, xt, xs, xn, xl⟩ := x
          obtain ⟨yk, yt, ys, yn, yl⟩ := y
          simp only [Nd.tD] at j2
          simp (maxSteps := 1000000) only [g, hac, enc_mk, tb123c_e, zzK, seval]
          intro i2 n2 n3 n4
          have hac1 : ∀ (K : D → AHeap → Prop) (h : AHeap), askE 5 K h (Nd.encs l') (i : Int) = K (.eptr [.int .i64 yk, .int .i64 yt, .str ys, .int .i64 yn, .sl (Nd.encs yl)] 0) h := fun K h => by rw [hac', enc_mk]
          simp (maxSteps := 1000000) only [n1, n2, n3, n4, hac1, tb123c_e, zzK, seval]
          cases c3c : (xt == yt) with
          | true =>
            simp only [c3c, if_true] at j2
            simp (maxSteps := 1000000) only [cNeed, q49c, crP_ok, cond_true, wi, tb123c_e, zzK, seval]
            exact hQ (i + 1) _ _ ⟨by omega, j2⟩ (by simp only [zzK, seval]) (sub_fr (by simp [n2, n3, n4])) (by omega)
          | false =>
            simp only [c3c, Bool.false_eq_true, if_false] at j2
            rw [j2] at k
            simp only [crR_err, crP_err] at k
            simp (maxSteps := 1000000) only [cNeed, q49c, crP_err, cond_false, tb123c_e, zzK, seval]
            intro σ hσ _
            simp only [panD]
            rw [hσ]
            simp only [leav_nil, finD]
            exact ⟨h, sub_fr2 n1 (by first | exact n2 | exact n3 | exact n4), k⟩
        · have g : ((i : Int) < (al.length : Int)) = False := eq_false (by omega)
          have e : argsF al l' = .ok () := by rw [j2, List.drop_eq_nil_of_le (by omega), argsF_nil]
          rw [e] at k
          simp only [crR_ok, crP_ok] at k
          simp (maxSteps := 1000000) only [g, n1, retD_ret, leav_nil, finD, tb123c_e, zzK, seval]
          first | exact ⟨h, sub_fr n1, k⟩ | exact .inl ⟨h, sub_fr n1, k⟩
def tb124c : Tab := tb123c.addE 124 cCall cCall_mono
theorem tb124c_q : tb124c.q = tb123c.q := rfl
theorem tb124c_a : tb124c.a = tb123c.a := rfl
theorem tb124c_c (g : FuncId) (args : List D) (h : AHeap) (K E : D → AHeap → Prop) : tb124c.c g args h K E = if g = 124 then cCall args h K E else tb123c.c g args h K E := rfl
theorem tb124c_ok : tb124c.ok Tryz.prog := Tab.addE_ok tb123c_ok cCall_ok
theorem tb124c_e : type_of% (And.intro (And.intro @tb124c_q (And.intro @tb124c_a @tb124c_c)) @tb123c_e) := (And.intro (And.intro @tb124c_q (And.intro @tb124c_a @tb124c_c)) @tb123c_e)
end
end Go.Proofs.YtpagdhbmbnoddaaGreatDoor.Zz
namespace Go.Proofs.YtpagdhbmbnoddaaGreatDoor.Zz
noncomputable section
def p97c : Plan := ⟨⟨[], [(6, 8), (7, 4), (16, 1), (19, 1), (20, 3), (22, 5), (24, 1), (25, 3), (26, 6), (28, 1), (30, 8), (31, 18), (10, 3), (11, 1), (12, 12)], [(12, 4), (12, 9)], [((7, 4), [(.t 5)])], [((7, 1), (.t 5))], []⟩, [(7, [0, 1, 2, 3, 4, 5, 6, 7, 8]), (12, [0, 1, 2, 3, 4, 5, 6, 7, 8, 9, 10, 11, 12, 13, 14])], [], false⟩
def s97c : Stm :=
 .seq (.ops [⟨.box (.t 1), some 3, none, false⟩,
 ⟨.alloc [(.int .i64 0), (.int .i64 0), (.str []), (.int .i64 0), .nilsl], some 4, none, false⟩])
 (.seq (.ops [⟨.load (some 5) (.t 3), some 8, none, false⟩,
 ⟨.alloc [(.int .i64 0), (.int .i64 0), (.str []), (.int .i64 0), .nilsl], some 5, none, false⟩,
 ⟨.store 5 (.t 5) (.t 8), none, none, false⟩])
 (.seq (.ops [⟨.fieldAddr 4 (.t 5), some 9, none, true⟩,
 ⟨.store 1 (.t 9) (.c .nilsl), none, none, false⟩])
 (.seq (.seq (.ops [⟨.fieldAddr 4 (.t 3), some 10, none, true⟩,
 ⟨.load none (.t 10), some 11, none, false⟩,
 ⟨.len .sl (.t 11), some 12, none, false⟩,
 ⟨.mov (.c (.int .i64 0)), some 13, none, true⟩])
 (.block 0 (.loop (.seq (.ops [⟨.bin .lss (.t 13) (.t 12), some 14, none, true⟩])
 (.seq (.cond (.t 14)
 (.skip)
 (.exit 0))
 (.seq (.block 1 (.seq (.ops [⟨.indexAddrS 5 (.t 11) (.t 13), some 15, none, false⟩,
 ⟨.load (some 5) (.t 15), some 16, none, false⟩,
 ⟨.alloc [(.int .i64 0), (.int .i64 0), (.str []), (.int .i64 0), .nilsl], some 7, none, false⟩,
 ⟨.store 5 (.t 7) (.t 16), none, none, false⟩])
 (.seq (.ops [⟨.fieldAddr 0 (.t 7), some 17, none, true⟩,
 ⟨.load none (.t 17), some 18, none, false⟩,
 ⟨.bin .geq (.t 18) (.c (.int .i64 20)), some 19, none, true⟩,
 ⟨.mov (.t 19), some 20, none, true⟩,
 ⟨.fieldAddr 0 (.t 7), some 21, (some (20, true)), true⟩,
 ⟨.load none (.t 21), some 22, (some (20, true)), false⟩,
 ⟨.bin .leq (.t 22) (.c (.int .i64 27)), some 23, (some (20, true)), true⟩,
 ⟨.pick (.t 20) (.t 23) (.c (.bool false)), some 24, none, true⟩,
 ⟨.call (.f 49) [(.t 24), (.c (.int .i64 125))], some 25, none, false⟩])
 (.opsD 26 [⟨.fieldAddr 4 (.t 5), some 26, none, true⟩,
 ⟨.loadOf none (.t 26) (.t 5), some 27, none, false⟩,
 ⟨.mov (.t 0), some 28, none, true⟩,
 ⟨.load (some 5) (.t 7), some 29, none, false⟩,
 ⟨.callNe (.f 97) [(.t 28), (.t 29)] [(.t 5)], some 30, none, false⟩,
 ⟨.buildSlice 5 [(.int .i64 0), (.int .i64 0), (.str []), (.int .i64 0), .nilsl] 1 [(0, (.t 30))] false, some 31, none, true⟩,
 ⟨.append 5 64 false (.t 27) (.t 31), some 32, none, false⟩,
 ⟨.fieldAddr 4 (.t 5), some 33, none, true⟩,
 ⟨.store 1 (.t 33) (.t 32), none, none, false⟩]))))
 (.ops [⟨.bin .add (.t 13) (.c (.int .i64 1)), some 34, none, true⟩,
 ⟨.mov (.t 34), some 13, none, true⟩])))))))
 (.seq (.seq (.ops [⟨.fieldAddr 0 (.t 3), some 35, none, true⟩,
 ⟨.load none (.t 35), some 36, none, false⟩])
 (.block 2 (.seq (.seq (.ops [⟨.bin .eql (.t 36) (.c (.int .i64 20)), some 58, none, true⟩,
 ⟨.mov (.t 58), some 57, none, true⟩])
 (.cond (.t 57)
 (.skip)
 (.seq (.ops [⟨.bin .eql (.t 36) (.c (.int .i64 21)), some 59, none, true⟩,
 ⟨.mov (.t 59), some 57, none, true⟩])
 (.cond (.t 57)
 (.skip)
 (.ops [⟨.bin .eql (.t 36) (.c (.int .i64 22)), some 60, none, true⟩,
 ⟨.mov (.t 60), some 57, none, true⟩])))))
 (.cond (.t 57)
 (.seq (.ops [⟨.load (some 5) (.t 3), some 61, none, false⟩,
 ⟨.call (.f 73) [(.t 61), (.c (.int .i64 0))], some 62, none, false⟩])
 (.ops [⟨.fieldAddr 0 (.t 3), some 63, none, true⟩,
 ⟨.load none (.t 63), some 64, none, false⟩,
 ⟨.bin .add (.c (.int .i64 1)) (.t 64), some 65, none, true⟩,
 ⟨.bin .sub (.t 65) (.c (.int .i64 20)), some 66, none, true⟩,
 ⟨.fieldAddr 1 (.t 5), some 67, none, true⟩,
 ⟨.store 1 (.t 67) (.t 66), none, none, false⟩]))
 (.seq (.ops [⟨.bin .eql (.t 36) (.c (.int .i64 23)), some 69, none, true⟩,
 ⟨.mov (.t 69), some 68, none, true⟩])
 (.cond (.t 68)
 (.seq (.ops [⟨.load (some 5) (.t 3), some 70, none, false⟩,
 ⟨.call (.f 73) [(.t 70), (.c (.int .i64 0))], some 71, none, false⟩])
 (.ops [⟨.mov (.t 0), some 72, none, true⟩,
 ⟨.fieldAddr 2 (.t 3), some 73, none, true⟩,
 ⟨.load none (.t 73), some 74, none, false⟩,
 ⟨.call (.f 123) [(.t 72), (.t 74)], some 75, none, false⟩,
 ⟨.fieldAddr 1 (.t 5), some 76, none, true⟩,
 ⟨.store 1 (.t 76) (.t 75), none, none, false⟩]))
 (.seq (.ops [⟨.bin .eql (.t 36) (.c (.int .i64 24)), some 78, none, true⟩,
 ⟨.mov (.t 78), some 77, none, true⟩])
 (.cond (.t 77)
 (.ops [⟨.mov (.t 0), some 79, none, true⟩,
 ⟨.fieldAddr 2 (.t 3), some 80, none, true⟩,
 ⟨.load none (.t 80), some 81, none, false⟩,
 ⟨.fieldAddr 4 (.t 5), some 82, none, true⟩,
 ⟨.load none (.t 82), some 83, none, false⟩,
 ⟨.call (.f 124) [(.t 79), (.t 81), (.t 83)], some 84, none, false⟩,
 ⟨.fieldAddr 1 (.t 5), some 85, none, true⟩,
 ⟨.store 1 (.t 85) (.t 84), none, none, false⟩])
 (.seq (.ops [⟨.bin .eql (.t 36) (.c (.int .i64 27)), some 87, none, true⟩,
 ⟨.mov (.t 87), some 86, none, true⟩])
 (.cond (.t 86)
 (.seq (.ops [⟨.load (some 5) (.t 3), some 88, none, false⟩,
 ⟨.call (.f 73) [(.t 88), (.c (.int .i64 1))], some 89, none, false⟩])
 (.seq (.ops [⟨.fieldAddr 1 (.t 3), some 90, none, true⟩,
 ⟨.load none (.t 90), some 91, none, false⟩,
 ⟨.qcall (.f 125) [(.t 91)], some 92, none, false⟩,
 ⟨.call (.f 49) [(.t 92), (.c (.int .i64 125))], some 93, none, false⟩])
 (.ops [⟨.fieldAddr 4 (.t 5), some 94, none, true⟩,
 ⟨.load none (.t 94), some 95, none, false⟩,
 ⟨.indexAddrS 5 (.t 95) (.c (.int .i64 0)), some 96, none, false⟩,
 ⟨.fieldAddr 1 (.t 96), some 97, none, true⟩,
 ⟨.load none (.t 97), some 98, none, false⟩,
 ⟨.qcall (.f 125) [(.t 98)], some 99, none, false⟩,
 ⟨.call (.f 49) [(.t 99), (.c (.int .i64 122))], some 100, none, false⟩])))
 (.seq (.ops [⟨.bin .eql (.t 36) (.c (.int .i64 25)), some 102, none, true⟩,
 ⟨.mov (.t 102), some 101, none, true⟩])
 (.cond (.t 101)
 (.seq (.ops [⟨.load (some 5) (.t 3), some 103, none, false⟩,
 ⟨.call (.f 73) [(.t 103), (.c (.int .i64 1))], some 104, none, false⟩])
 (.seq (.ops [⟨.fieldAddr 4 (.t 5), some 105, none, true⟩,
 ⟨.load none (.t 105), some 106, none, false⟩,
 ⟨.indexAddrS 5 (.t 106) (.c (.int .i64 0)), some 107, none, false⟩,
 ⟨.fieldAddr 1 (.t 107), some 108, none, true⟩,
 ⟨.load none (.t 108), some 109, none, false⟩,
 ⟨.fieldAddr 1 (.t 5), some 110, none, true⟩,
 ⟨.store 1 (.t 110) (.t 109), none, none, false⟩])
 (.seq (.ops [⟨.fieldAddr 2 (.t 3), some 111, none, true⟩,
 ⟨.load none (.t 111), some 112, none, false⟩,
 ⟨.bin .eql (.t 112) (.c (.str [45])), some 113, none, true⟩,
 ⟨.mov (.t 113), some 114, none, true⟩,
 ⟨.fieldAddr 2 (.t 3), some 115, (some (114, false)), true⟩,
 ⟨.load none (.t 115), some 116, (some (114, false)), false⟩,
 ⟨.bin .eql (.t 116) (.c (.str [33])), some 117, (some (114, false)), true⟩,
 ⟨.pick (.t 114) (.c (.bool true)) (.t 117), some 118, none, true⟩,
 ⟨.call (.f 49) [(.t 118), (.c (.int .i64 125))], some 119, none, false⟩])
 (.ops [⟨.fieldAddr 2 (.t 3), some 120, none, true⟩,
 ⟨.load none (.t 120), some 121, none, false⟩,
 ⟨.bin .eql (.t 121) (.c (.str [45])), some 122, none, true⟩,
 ⟨.mov (.t 122), some 123, none, true⟩,
 ⟨.fieldAddr 1 (.t 5), some 124, (some (123, true)), true⟩,
 ⟨.load none (.t 124), some 125, (some (123, true)), false⟩,
 ⟨.qcall (.f 125) [(.t 125)], some 126, (some (123, true)), false⟩,
 ⟨.pick (.t 123) (.t 126) (.c (.bool false)), some 127, none, true⟩,
 ⟨.mov (.t 127), some 128, none, true⟩,
 ⟨.fieldAddr 2 (.t 3), some 129, (some (128, false)), true⟩,
 ⟨.load none (.t 129), some 130, (some (128, false)), false⟩,
 ⟨.bin .eql (.t 130) (.c (.str [33])), some 131, (some (128, false)), true⟩,
 ⟨.mov (.t 131), some 132, (some (128, false)), true⟩,
 ⟨.fieldAddr 1 (.t 5), some 133, (some (132, true)), true⟩,
 ⟨.load none (.t 133), some 134, (some (132, true)), false⟩,
 ⟨.bin .eql (.t 134) (.c (.int .i64 3)), some 135, (some (132, true)), true⟩,
 ⟨.pick (.t 132) (.t 135) (.c (.bool false)), some 136, (some (128, false)), true⟩,
 ⟨.pick (.t 128) (.c (.bool true)) (.t 136), some 137, none, true⟩,
 ⟨.call (.f 49) [(.t 137), (.c (.int .i64 122))], some 138, none, false⟩]))))
 (.seq (.ops [⟨.fieldAddr 0 (.t 3), some 37, none, true⟩,
 ⟨.load none (.t 37), some 38, none, false⟩,
 ⟨.bin .eql (.t 38) (.c (.int .i64 26)), some 39, none, true⟩,
 ⟨.call (.f 49) [(.t 39), (.c (.int .i64 125))], some 40, none, false⟩])
 (.seq (.ops [⟨.load (some 5) (.t 3), some 41, none, false⟩,
 ⟨.call (.f 73) [(.t 41), (.c (.int .i64 2))], some 42, none, false⟩])
 (.opsD 43 [⟨.fieldAddr 2 (.t 3), some 43, none, true⟩,
 ⟨.load none (.t 43), some 44, none, false⟩,
 ⟨.fieldAddr 4 (.t 5), some 45, none, true⟩,
 ⟨.load none (.t 45), some 46, none, false⟩,
 ⟨.indexAddrS 5 (.t 46) (.c (.int .i64 0)), some 47, none, false⟩,
 ⟨.fieldAddr 1 (.t 47), some 48, none, true⟩,
 ⟨.load none (.t 48), some 49, none, false⟩,
 ⟨.fieldAddr 4 (.t 5), some 50, none, true⟩,
 ⟨.load none (.t 50), some 51, none, false⟩,
 ⟨.indexAddrS 5 (.t 51) (.c (.int .i64 1)), some 52, none, false⟩,
 ⟨.fieldAddr 1 (.t 52), some 53, none, true⟩,
 ⟨.load none (.t 53), some 54, none, false⟩,
 ⟨.call (.f 126) [(.t 44), (.t 49), (.t 54)], some 55, none, false⟩,
 ⟨.fieldAddr 1 (.t 5), some 56, none, true⟩,
 ⟨.store 1 (.t 56) (.t 55), none, none, false⟩])))))))))))))))
 (.seq (.ops [⟨.load (some 5) (.t 5), some 139, none, false⟩,
 ⟨.store 5 (.t 4) (.t 139), none, none, false⟩])
 (.ret))))))
theorem st97c : stmOf Tryz.prog 97 p97c = some (s97c, [.cell 4 (some 5)], 140) := by kernel_rfl
theorem app_own2c {sz b r n : Nat} {xs : List (List D)} {y : List D} {h : AHeap} {K : D → AHeap → Prop} (hxn : xs.length = n) (hr : n ≠ 0 → h.f r = some (.row sz (n + 2) xs false)) (hy : y.length = sz ∧ y.all cellOk = true) (hb : 0 < b) (hn : (n + 1) * b ≤ 140737488355328)
    (hk : ∀ r', (n = 0 → h.f r' = none) → (n ≠ 0 → r' = r) → K (.row r' (n + 1 + 2) 0 (n + 1)) (h.set r' (.row sz (n + 1 + 2) (xs ++ [y]) false))) : appK sz b (ownD r n) h K (some [y]) := by
  subst hxn
  refine app_own (fun h0 => hr (fun e => h0 (List.length_eq_zero_iff.1 e))) hy hb hn fun r' a1 a2 => ?_
  rw [ownD_pos (by omega)]
  exact hk r' (fun e => a1 (List.length_eq_zero_iff.1 e)) (fun e => a2 (fun e' => e (by rw [e']; rfl)))
def Ext (h h' : AHeap) : Prop := ∀ j, h.f j ≠ none → h'.f j = h.f j
theorem Ext.refl (h : AHeap) : Ext h h := fun _ _ => rfl
theorem Ext.sub {h h' : AHeap} (e : Ext h h') : h.sub h' := fun j o hj => by rw [e j (by rw [hj]; simp)]; exact hj
theorem Ext.set {h h' : AHeap} (e : Ext h h') {i : Nat} {o : AObj} (n : h.f i = none) : Ext h (h'.set i o) := fun j hj => by
  have : j ≠ i := fun x => hj (by rw [x]; exact n)
  simp only [AHeap.set_f, this, if_false]; exact e j hj
theorem Ext.none {h h' : AHeap} (e : Ext h h') {i : Nat} (n : h'.f i = .none) : h.f i = .none := by
  by_cases c : h.f i = .none
  · exact c
  · rw [e i c] at n; exact n
theorem RowAt.ext {h h' : AHeap} (e : Ext h h') {d : D} {xs : List (List D)} (r : RowAt h d xs) : RowAt h' d xs := by
  rcases r with r | ⟨r, v, old, h1, h2, h3⟩
  · exact .inl r
  · exact .inr ⟨r, v, old, h1, by rw [e r (by rw [h2]; simp)]; exact h2, h3⟩
theorem ScAt.ext {h h' : AHeap} (e : Ext h h') {c : Nat} {p : Nd} {sc : Scp} {dn dt : D} {ans : Int} (s : ScAt h c p sc dn dt ans) : ScAt h' c p sc dn dt ans :=
  ⟨by rw [e c (by rw [s.obj]; simp)]; exact s.obj, s.nm.ext e, s.ty.ext e, s.ne⟩
def crN (r : CR Nd) : CR D := match r with
  | .ok x => .ok (.agg x.enc)
  | .error e => .error e
theorem crN_ok (x : Nd) : crN (.ok x) = .ok (.agg x.enc) := rfl
theorem crN_err (e : Int) : crN (.error e) = .error e := rfl
theorem exprFs_nil (ks : List Nd) (sc : Scp) : exprFs ks sc [] = .ok [] := by rw [exprFs]
theorem exprFs_cons (ks : List Nd) (sc : Scp) (x : Nd) (l : List Nd) : exprFs ks sc (x :: l) = if isEx x.kD then (match exprF ks sc x with
    | .ok x' => match exprFs ks sc l with
      | .ok l' => .ok (x' :: l')
      | .error e => .error e
    | .error e => .error e) else .error 125 := by rw [exprFs]; rfl
theorem exprF_mk (ks : List Nd) (sc : Scp) (k t : Int) (s : List UInt8) (n : Int) (l : List Nd) : exprF ks sc (.mk k t s n l) = match exprFs ks sc l with
    | .ok l' => match typeF ks sc k t s l' with
      | .ok t' => .ok (.mk k t' s n l')
      | .error e => .error e
    | .error e => .error e := by rw [exprF]; rfl
def afterE (ks : List Nd) (sc : Scp) (done l : List Nd) : CR (List Nd) := match exprFs ks sc l with
  | .ok l' => .ok (done ++ l')
  | .error e => .error e
theorem afterE_nil (ks : List Nd) (sc : Scp) (done : List Nd) : afterE ks sc done [] = .ok done := by rw [afterE, exprFs_nil]; simp
theorem afterE_cons (ks : List Nd) (sc : Scp) (done : List Nd) (x : Nd) (l : List Nd) : afterE ks sc done (x :: l) = if isEx x.kD then (match exprF ks sc x with
    | .ok x' => afterE ks sc (done ++ [x']) l
    | .error e => .error e) else .error 125 := by
  rw [afterE, exprFs_cons]
  cases isEx x.kD with
  | false => rfl
  | true =>
    simp only [if_true]
    cases exprF ks sc x with
    | error e => rfl
    | ok x' =>
      simp only [afterE]
      cases exprFs ks sc l with
      | error e => rfl
      | ok l' => simp
def cExpr (G : Nat) (args : List D) (h : AHeap) (K E : D → AHeap → Prop) : Prop := ∃ (c : Nat) (p : Nd) (sc : Scp) (dn dt : D) (ans : Int) (x : Nd), args = [.ptr c 1 0, .agg x.enc] ∧ ScAt h c p sc dn dt ans ∧ x.cnt < G ∧ x.cnt ≤ 1000000 ∧ crP K E h (some (crN (exprF p.lD sc x)))
theorem cExpr_mono (G : Nat) (args : List D) (h : AHeap) (K E K' E' : D → AHeap → Prop) (hk : ∀ d h, K d h → K' d h) (he : ∀ d h, E d h → E' d h) (c : cExpr G args h K E) : cExpr G args h K' E' := by
  obtain ⟨c, p, sc, dn, dt, ans, x, a, b, d, e, k⟩ := c
  exact ⟨c, p, sc, dn, dt, ans, x, a, b, d, e, crP_mono hk he k⟩
def tbX (G : Nat) : Tab := tb124c.addE 97 (cExpr G) (cExpr_mono G)
theorem tbX_q {G : Nat} : (tbX G).q = tb124c.q := rfl
theorem tbX_a {G : Nat} : (tbX G).a = tb124c.a := rfl
theorem tbX_c {G : Nat} (g : FuncId) (args : List D) (h : AHeap) (K E : D → AHeap → Prop) : (tbX G).c g args h K E = if g = 97 then cExpr G args h K E else tb124c.c g args h K E := rfl
theorem tbX_e : type_of% (And.intro (And.intro @tbX_q (And.intro @tbX_a @tbX_c)) @tb124c_e) := (And.intro (And.intro @tbX_q (And.intro @tbX_a @tbX_c)) @tb124c_e)
theorem fin_node {K E : D → AHeap → Prop} {σ : Fr} {A h : AHeap} {a i2 r i : Nat} {k T n : Int} {s : List UInt8} {done : List Nd} (hσ : σ.env a = .ptr i2 1 0) (hA : A.f i2 = some (.cells [.int .i64 k, .int .i64 T, .str s, .int .i64 n, ownD r i]))
    (hd : done.length = i) (hr : i ≠ 0 → h.f r = none ∧ ∃ fz, A.f r = some (.row 5 (i + 2) (Nd.encs done) fz)) (ext : Ext h A) (hk : K (.agg (Nd.enc (.mk k T s n done))) h) : finD [.cell a (some 5)] (AOut.to K E) σ none A := by
  refine ⟨[.agg [.int .i64 k, .int .i64 T, .str s, .int .i64 n, ownD r i]], ?_, .inr ⟨h, ?_, ?_⟩⟩
  · simp [evRes, hσ, loadD, hA, partD]
  · by_cases h0 : i = 0
    · subst h0
      exact ext.sub
    · have e : frzL A [.agg [.int .i64 k, .int .i64 T, .str s, .int .i64 n, ownD r i]] = frzId A r := by rw [ownD_pos h0]; rfl
      rw [e]
      intro j o hj
      have hne : j ≠ r := fun x => by rw [x, (hr h0).1] at hj; cases hj
      rw [frzId_f, if_neg hne]
      exact ext.sub j o hj
  · show K (plain A (.agg [.int .i64 k, .int .i64 T, .str s, .int .i64 n, ownD r i])) h
    have e : plain A (.agg [.int .i64 k, .int .i64 T, .str s, .int .i64 n, ownD r i]) = .agg (Nd.enc (.mk k T s n done)) := by
      rw [enc_mk]
      by_cases h0 : i = 0
      · subst h0
        have : done = [] := List.length_eq_zero_iff.1 hd
        subst this
        rw [ownD_zero, encs_nil]; rfl
      · rw [ownD_pos h0]
        obtain ⟨fz, hf⟩ := (hr h0).2
        simp only [plain, List.map_cons, List.map_nil, hf]
        rw [if_pos ⟨trivial, by rw [len_encs, hd]; omega⟩, List.drop_zero, List.take_of_length_le (by rw [len_encs, hd]; omega)]
    rw [e]; exact hk
set_option maxHeartbeats 1000000 in
theorem expr_step (G : Nat) (hT : (tbX G).ok Tryz.prog) (c : Nat) (p : Nd) (sc : Scp) (dn dt : D) (ans : Int) (x : Nd) (hx : x.cnt < G + 1) (hb : x.cnt ≤ 1000000) (h : AHeap) (hs : ScAt h c p sc dn dt ans) (K E : D → AHeap → Prop) (hk : crP K E h (some (crN (exprF p.lD sc x)))) : ACalls Tryz.prog 97 [.ptr c 1 0, .agg x.enc] h (AOut.to K E) := by
  refine ACalls.of_stmD hT (dc := DTab.none) (fun _ _ => DTab.none_ok) (by kernel_rfl) st97c (by simp) ?_
  rw [vc_todo]
  obtain ⟨k, t, s, n, l⟩ := x
  have hcnt : ∀ y ∈ l, y.cnt < G ∧ y.cnt ≤ 1000000 := fun y hy => by have := cnt_kid (k := k) (t := t) (s := s) (n := n) hy; omega
  have hln : l.length ≤ 1000000 := by rw [cnt_mk] at hb; have := cnts_len l; omega
  rw [exprF_mk] at hk
  rw [enc_mk]
  simp (maxSteps := 1000000) only [s97c, tbX_e, tb124c_e, zzK, seval]
  intro i1 k1 i2 n1 n2 k2
  simp (maxSteps := 1000000) only [n1, n2, tbX_e, tb124c_e, zzK, seval]
  intro i3 m1 m2 m3 m4 k3
  simp (maxSteps := 1000000) only [n1, n2, m1, m2, m3, m4, len_encs, tbX_e, tb124c_e, zzK, seval]
  intro _
  refine run_loop (X := Nat × Nat × List Nd × AHeap) (fun z => [(0, .ptr c 1 0), (3, .ptr i1 1 0), (4, .ptr i2 1 0), (5, .ptr i3 1 0), (11, .sl (Nd.encs l)), (12, .int .i64 l.length), (13, .int .i64 z.1)]) (fun z => z.2.2.2) (fun z => l.length - z.1)
    (fun z => z.1 ≤ l.length ∧ z.2.2.2.f i1 = some (.cells [.int .i64 k, .int .i64 t, .str s, .int .i64 n, .sl (Nd.encs l)]) ∧ z.2.2.2.f i2 = some (.cells [.int .i64 0, .int .i64 0, .str [], .int .i64 0, .nilsl]) ∧
      z.2.2.2.f i3 = some (.cells [.int .i64 k, .int .i64 t, .str s, .int .i64 n, ownD z.2.1 z.1]) ∧ z.2.2.1.length = z.1 ∧
      (z.1 ≠ 0 → z.2.1 ≠ i1 ∧ z.2.1 ≠ i2 ∧ z.2.1 ≠ i3 ∧ h.f z.2.1 = none ∧ z.2.2.2.f z.2.1 = some (.row 5 (z.1 + 2) (Nd.encs z.2.2.1) false)) ∧ Ext h z.2.2.2 ∧ exprFs p.lD sc l = afterE p.lD sc z.2.2.1 (l.drop z.1)) (0, 0, [], _) ⟨Nat.zero_le _, ?_, ?_, ?_, rfl, fun h => absurd rfl h, ?_, ?_⟩ ?_ (AHeap.sub_refl _) ?_
  · simp [n1, n2, m1, m2, m3, m4]
  · simp [n1, n2, m1, m2, m3, m4]
  · simp [n1, n2, m1, m2, m3, m4, ownD_zero]
  · intro j hj
    have e1 : ¬ j = i1 := fun e => hj (by rw [e]; exact k1)
    have e2 : ¬ j = i2 := fun e => hj (by rw [e]; exact k2)
    have e3 : ¬ j = i3 := fun e => hj (by rw [e]; exact k3)
    simp [e1, e2, e3]
  · rw [List.drop_zero, afterE]
    cases exprFs p.lD sc l <;> rfl
  · simp only [zzK, seval]
  rintro ⟨i, r, done, hh⟩ Q ⟨j0, v1, v2, v3, vd, vr, vo, va⟩ hQ
  simp only at j0 v1 v2 v3 vd vr vo va hQ ⊢
  cases c0c : decide (i < l.length) with
  | true =>
    have c0c : i < l.length := by simpa using c0c
    obtain ⟨y, hy⟩ : ∃ y, l[i]? = some y := ⟨_, List.getElem?_eq_getElem c0c⟩
    have g : ((i : Int) < (l.length : Int)) = True := eq_true (by omega)
    have hym : y ∈ l := List.mem_of_getElem? hy
    have wi : IntKind.i64.wrap ((i : Int) + 1) = ((i + 1 : Nat) : Int) := wrap_succ (by omega)
    have hac : ∀ (K : D → AHeap → Prop) (h : AHeap), askE 5 K h (Nd.encs l) (i : Int) = K (.eptr y.enc 0) h := fun K h => askE_encs hy
    obtain ⟨hyc1, hyc2⟩ := hcnt y hym
    rw [drop_consX hy, afterE_cons] at va
    obtain ⟨yk, yt, yx, ym, yl⟩ := y
    rw [enc_mk] at hac
    simp (maxSteps := 1000000) only [g, v1, v2, v3, hac, tbX_e, tb124c_e, zzK, seval]
    intro i7 k7
    have ne_of : ∀ {q : Nat} {o : AObj}, hh.f q = some o → ¬ i7 = q := fun hq e => by rw [e, hq] at k7; cases k7
    have p1c := ne_of v1
    have p2c := ne_of v2
    have p3c := ne_of v3
    have p1c' : ¬ i1 = i7 := fun e => p1c e.symm
    have p2c' : ¬ i2 = i7 := fun e => p2c e.symm
    have p3c' : ¬ i3 = i7 := fun e => p3c e.symm
    have hext : ∀ o, Ext h (hh.set i7 o) := fun o => vo.set (vo.none k7)
    by_cases q1c : 20 ≤ yk
    · have g1 : (yk ≥ 20) = True := eq_true q1c
      by_cases q2c : yk ≤ 27
      · have hE : isEx (Nd.mk yk yt yx ym yl).kD = true := by simp [Nd.kD, isEx, q1c, q2c]
        have g2 : decide (yk ≤ 27) = true := by simp [q2c]
        rw [if_pos hE] at va
        simp (maxSteps := 1000000) only [g1, g2, cNeed, q49c, crP_ok, cond_true, v1, v2, v3, p1c, p2c, p3c, p1c', p2c', p3c', tbX_e, tb124c_e, zzK, seval]
        refine ⟨c, p, sc, dn, dt, ans, .mk yk yt yx ym yl, by rw [enc_mk], hs.ext (hext _), hyc1, hyc2, ?_⟩
        cases he : exprF p.lD sc (.mk yk yt yx ym yl) with
        | error e =>
          rw [he] at va
          simp only at va
          rw [va] at hk
          simp only [crN_err, crP_err] at hk ⊢
          intro σ hσ _
          simp only [panD]
          rw [hσ]
          simp only [leav_nil, finD]
          exact ⟨h, (hext _).sub, hk⟩
        | ok y' =>
          rw [he] at va
          simp only at va
          simp (maxSteps := 1000000) only [crN_ok, crP_ok, p3c', v3, enc_unnil, len_enc, enc_ok, tbX_e, tb124c_e, zzK, seval]
          have hxn : (Nd.encs done).length = i := by rw [len_encs, vd]
          refine app_own2c (b := 64) hxn (fun h0 => ?_) ⟨len_enc y', enc_ok y'⟩ (by omega) (by omega) fun r' a1 a2 => ?_
          · have e : ¬ r = i7 := fun e => ne_of (vr h0).2.2.2.2 e.symm
            rw [AHeap.set_f, if_neg e]
            exact (vr h0).2.2.2.2
          have a3 : r' ≠ i1 ∧ r' ≠ i2 ∧ r' ≠ i3 ∧ h.f r' = none := by
            by_cases h0 : i = 0
            · have := a1 h0
              refine ⟨fun e => ?_, fun e => ?_, fun e => ?_, (hext _).none this⟩
              · subst e; simp [p1c', v1] at this
              · subst e; simp [p2c', v2] at this
              · subst e; simp [p3c', v3] at this
            · rw [a2 h0]; exact ⟨(vr h0).1, (vr h0).2.1, (vr h0).2.2.1, (vr h0).2.2.2.1⟩
          obtain ⟨r1, r2, r3, r4⟩ := a3
          have r1' : ¬ i1 = r' := fun e => r1 e.symm
          have r2' : ¬ i2 = r' := fun e => r2 e.symm
          have r3' : ¬ i3 = r' := fun e => r3 e.symm
          simp (maxSteps := 1000000) only [v1, v2, v3, p1c, p2c, p3c, p1c', p2c', p3c', r1, r2, r3, r1', r2', r3', wi, tbX_e, tb124c_e, zzK, seval]
          refine hQ (i + 1, r', done ++ [y'], _) _ _ ⟨c0c, ?_, ?_, ?_, ?_, fun _ => ⟨r1, r2, r3, r4, ?_⟩, ?_, va⟩ (by simp only [ownD_pos (Nat.succ_ne_zero i), zzK, seval]) (AHeap.sub_refl _) (by simp only; omega)
          · simp [r1', p1c', v1, n1, n2, m1, m2, m3, m4]
          · simp [r2', p2c', v2, n1, n2, m1, m2, m3, m4]
          · simp [ownD_pos (Nat.succ_ne_zero i)]
          · simp [vd]
          · simp [r3, r3', encs_snoc]
          · exact ((hext _).set r4).set k3
      · have hE : isEx (Nd.mk yk yt yx ym yl).kD = false := by simp [Nd.kD, isEx, q2c]
        have g2 : decide (yk ≤ 27) = false := by simp [q2c]
        rw [if_neg (by rw [hE]; simp)] at va
        rw [va] at hk
        simp only [crN_err, crP_err] at hk
        simp (maxSteps := 1000000) only [g1, g2, cNeed, q49c, crP_err, cond_false, panD, leav_nil, finD, zzK, seval]
        exact ⟨h, (hext _).sub, hk⟩
    · have g1 : (yk ≥ 20) = False := eq_false q1c
      have hE : isEx (Nd.mk yk yt yx ym yl).kD = false := by simp [Nd.kD, isEx, q1c]
      rw [if_neg (by rw [hE]; simp)] at va
      rw [va] at hk
      simp only [crN_err, crP_err] at hk
      simp (maxSteps := 1000000) only [g1, cNeed, q49c, crP_err, cond_false, panD, leav_nil, finD, zzK, seval]
      exact ⟨h, (hext _).sub, hk⟩
  | false =>
    have e0 : i = l.length := by simp at c0c; omega
    have g : ((i : Int) < (l.length : Int)) = False := eq_false (by omega)
    rw [List.drop_eq_nil_of_le (by omega), afterE_nil] at va
    rw [va] at hk
    simp only at hk
    unfold typeF at hk
    have hdl : done.length = l.length := by rw [vd, e0]
    have hok : cellOk (ownD r i) = true := by unfold ownD; split <;> rfl
    cases k20 : (k == 20) with
    | true =>
      simp only [k20, Bool.true_or, Bool.or_true, if_true] at hk
      simp (maxSteps := 1000000) only [k20, g, v1, v2, v3, n1, n2, m1, m2, m3, m4, hok, tbX_e, tb124c_e, zzK, seval]
      refine ⟨.mk k t s n l, 0, by rw [enc_mk], ?_⟩
      simp only [Nd.lD]
      cases cl : (done.length == 0) with
      | false =>
        have cl' : ((l.length : Int) == 0) = false := beq_eq_false_iff_ne.2 (by have := beq_eq_false_iff_ne.1 cl; omega)
        rw [cl] at hk
        simp only [Bool.false_eq_true, if_false, crN_err, crP_err] at hk
        simp (maxSteps := 1000000) only [cl', cond_false, panD, leav_nil, finD, zzK, seval]
        exact ⟨h, vo.sub, hk⟩
      | true =>
        have cl' : ((l.length : Int) == 0) = true := beq_iff_eq.2 (by have := beq_iff_eq.1 cl; omega)
        rw [cl] at hk
        simp only [if_true] at hk
        simp only [crN_ok, crP_ok] at hk
        obtain rfl : k = 20 := beq_iff_eq.1 k20
        have w : IntKind.i64.wrap (IntKind.i64.wrap 21 - 20) = 1 := by decide
        simp (maxSteps := 1000000) only [cl', cond_true, retD_ret, leav_nil, v1, v2, v3, n1, n2, m1, m2, m3, m4, hok, tbX_e, tb124c_e, zzK, seval]
        exact fin_node (i2 := i2) (done := done) (by simp only [zzK, seval]) (by simp only [w, zzK, seval]) vd (fun h0 => ⟨(vr h0).2.2.2.1, false, by simp [(vr h0).1, (vr h0).2.1, (vr h0).2.2.1, (vr h0).2.2.2.2]⟩) ((vo.set k3).set k2) hk
    | false =>
      cases k21 : (k == 21) with
      | true =>
        simp only [k20, k21, Bool.true_or, Bool.or_true, if_true] at hk
        simp (maxSteps := 1000000) only [k20, k21, g, v1, v2, v3, n1, n2, m1, m2, m3, m4, hok, tbX_e, tb124c_e, zzK, seval]
        refine ⟨.mk k t s n l, 0, by rw [enc_mk], ?_⟩
        simp only [Nd.lD]
        cases cl : (done.length == 0) with
        | false =>
          have cl' : ((l.length : Int) == 0) = false := beq_eq_false_iff_ne.2 (by have := beq_eq_false_iff_ne.1 cl; omega)
          rw [cl] at hk
          simp only [Bool.false_eq_true, if_false, crN_err, crP_err] at hk
          simp (maxSteps := 1000000) only [cl', cond_false, panD, leav_nil, finD, zzK, seval]
          exact ⟨h, vo.sub, hk⟩
        | true =>
          have cl' : ((l.length : Int) == 0) = true := beq_iff_eq.2 (by have := beq_iff_eq.1 cl; omega)
          rw [cl] at hk
          simp only [if_true] at hk
          simp only [crN_ok, crP_ok] at hk
          obtain rfl : k = 21 := beq_iff_eq.1 k21
          have w : IntKind.i64.wrap (IntKind.i64.wrap 22 - 20) = 2 := by decide
          simp (maxSteps := 1000000) only [cl', cond_true, retD_ret, leav_nil, v1, v2, v3, n1, n2, m1, m2, m3, m4, hok, tbX_e, tb124c_e, zzK, seval]
          exact fin_node (i2 := i2) (done := done) (by simp only [zzK, seval]) (by simp only [w, zzK, seval]) vd (fun h0 => ⟨(vr h0).2.2.2.1, false, by simp [(vr h0).1, (vr h0).2.1, (vr h0).2.2.1, (vr h0).2.2.2.2]⟩) ((vo.set k3).set k2) hk
      | false =>
        cases k22 : (k == 22) with
        | true =>
          simp only [k20, k21, k22, Bool.true_or, Bool.or_true, if_true] at hk
          simp (maxSteps := 1000000) only [k20, k21, k22, g, v1, v2, v3, n1, n2, m1, m2, m3, m4, hok, tbX_e, tb124c_e, zzK, seval]
          refine ⟨.mk k t s n l, 0, by rw [enc_mk], ?_⟩
          simp only [Nd.lD]
          cases cl : (done.length == 0) with
          | false =>
            have cl' : ((l.length : Int) == 0) = false := beq_eq_false_iff_ne.2 (by have := beq_eq_false_iff_ne.1 cl; omega)
            rw [cl] at hk
            simp only [Bool.false_eq_true, if_false, crN_err, crP_err] at hk
            simp (maxSteps := 1000000) only [cl', cond_false, panD, leav_nil, finD, zzK, seval]
            exact ⟨h, vo.sub, hk⟩
          | true =>
            have cl' : ((l.length : Int) == 0) = true := beq_iff_eq.2 (by have := beq_iff_eq.1 cl; omega)
            rw [cl] at hk
            simp only [if_true] at hk
            simp only [crN_ok, crP_ok] at hk
            obtain rfl : k = 22 := beq_iff_eq.1 k22
            have w : IntKind.i64.wrap (IntKind.i64.wrap 23 - 20) = 3 := by decide
            simp (maxSteps := 1000000) only [cl', cond_true, retD_ret, leav_nil, v1, v2, v3, n1, n2, m1, m2, m3, m4, hok, tbX_e, tb124c_e, zzK, seval]
            exact fin_node (i2 := i2) (done := done) (by simp only [zzK, seval]) (by simp only [w, zzK, seval]) vd (fun h0 => ⟨(vr h0).2.2.2.1, false, by simp [(vr h0).1, (vr h0).2.1, (vr h0).2.2.1, (vr h0).2.2.2.2]⟩) ((vo.set k3).set k2) hk
        | false =>
          cases k23 : (k == 23) with
          | true =>
            simp only [k20, k21, k22, k23, Bool.or_false, Bool.false_or, Bool.false_eq_true, if_false, if_true] at hk
            simp (maxSteps := 1000000) only [k20, k21, k22, k23, g, v1, v2, v3, n1, n2, m1, m2, m3, m4, hok, tbX_e, tb124c_e, zzK, seval]
            refine ⟨.mk k t s n l, 0, by rw [enc_mk], ?_⟩
            simp only [Nd.lD]
            cases cl : (done.length == 0) with
            | false =>
              have cl' : ((l.length : Int) == 0) = false := beq_eq_false_iff_ne.2 (by have := beq_eq_false_iff_ne.1 cl; omega)
              rw [cl] at hk
              simp only [Bool.false_eq_true, if_false, crN_err, crP_err] at hk
              simp (maxSteps := 1000000) only [cl', cond_false, panD, leav_nil, finD, zzK, seval]
              exact ⟨h, vo.sub, hk⟩
            | true =>
              have cl' : ((l.length : Int) == 0) = true := beq_iff_eq.2 (by have := beq_iff_eq.1 cl; omega)
              rw [cl] at hk
              simp only [if_true] at hk
              simp (maxSteps := 1000000) only [cl', cond_true, v1, v2, v3, n1, n2, m1, m2, m3, m4, hok, tbX_e, tb124c_e, zzK, seval]
              refine ⟨c, p, sc, dn, dt, ans, s, rfl, hs.ext vo, ?_⟩
              cases hv : varF p.lD sc s with
              | error e =>
                rw [hv] at hk
                simp only [crN_err, crR_err, crP_err] at hk ⊢
                simp only [panD, leav_nil, finD]
                exact ⟨h, vo.sub, hk⟩
              | ok t' =>
                rw [hv] at hk
                simp only [crN_ok, crR_ok, crP_ok] at hk ⊢
                simp (maxSteps := 1000000) only [retD_ret, leav_nil, v1, v2, v3, n1, n2, m1, m2, m3, m4, hok, tbX_e, tb124c_e, zzK, seval]
                exact fin_node (i2 := i2) (done := done) (by simp only [zzK, seval]) (by simp only [zzK, seval]) vd (fun h0 => ⟨(vr h0).2.2.2.1, false, by simp [(vr h0).1, (vr h0).2.1, (vr h0).2.2.1, (vr h0).2.2.2.2]⟩) ((vo.set k3).set k2) hk
          | false =>
            cases k24 : (k == 24) with
            | true =>
              simp only [k20, k21, k22, k23, k24, Bool.or_false, Bool.false_or, Bool.false_eq_true, if_false, if_true] at hk
              by_cases h0 : i = 0
              · have hd0 : done = [] := List.length_eq_zero_iff.1 (by rw [vd, h0])
                subst hd0
                rw [h0, ownD_zero] at v3
                simp (maxSteps := 1000000) only [k20, k21, k22, k23, k24, g, v1, v2, v3, n1, n2, m1, m2, m3, m4, hok, tbX_e, tb124c_e, zzK, seval]
                refine ⟨c, p, sc, dn, dt, ans, s, [], by rw [encs_nil], hs.ext vo, ?_⟩
                cases hv : callF p.lD s [] with
                | error e =>
                  rw [hv] at hk
                  simp only [crN_err, crR_err, crP_err] at hk ⊢
                  simp only [panD, leav_nil, finD]
                  exact ⟨h, vo.sub, hk⟩
                | ok t' =>
                  rw [hv] at hk
                  simp only [crN_ok, crR_ok, crP_ok] at hk ⊢
                  simp (maxSteps := 1000000) only [retD_ret, leav_nil, v1, v2, v3, n1, n2, m1, m2, m3, m4, hok, tbX_e, tb124c_e, zzK, seval]
                  exact fin_node (i2 := i2) (r := r) (i := 0) (done := []) (by simp only [zzK, seval]) (by simp only [ownD_zero, zzK, seval]) rfl (fun h0 => absurd rfl h0) ((vo.set k3).set k2) hk
              · obtain ⟨r1, r2, r3, r4, hrr⟩ := vr h0
                have r1' : ¬ i1 = r := fun e => r1 e.symm
                have r2' : ¬ i2 = r := fun e => r2 e.symm
                have r3' : ¬ i3 = r := fun e => r3 e.symm
                rw [ownD_pos h0] at v3
                have hle : (i ≤ (Nd.encs done).length) = True := eq_true (by rw [len_encs, vd]; omega)
                have htk : List.take i (Nd.encs done) = Nd.encs done := List.take_of_length_le (by rw [len_encs, vd]; omega)
                simp (maxSteps := 1000000) only [k20, k21, k22, k23, k24, g, hle, htk, v1, v2, v3, hrr, r1, r2, r3, r1', r2', r3', n1, n2, m1, m2, m3, m4, tbX_e, tb124c_e, zzK, seval]
                refine ⟨c, p, sc, dn, dt, ans, s, done, rfl, hs.ext (vo.set r4), ?_⟩
                cases hv : callF p.lD s done with
                | error e =>
                  rw [hv] at hk
                  simp only [crN_err, crR_err, crP_err] at hk ⊢
                  simp only [panD, leav_nil, finD]
                  exact ⟨h, (vo.set r4).sub, hk⟩
                | ok t' =>
                  rw [hv] at hk
                  simp only [crN_ok, crR_ok, crP_ok] at hk ⊢
                  simp (maxSteps := 1000000) only [retD_ret, leav_nil, v1, v2, v3, hrr, r1, r2, r3, r1', r2', r3', n1, n2, m1, m2, m3, m4, tbX_e, tb124c_e, zzK, seval]
                  exact fin_node (i2 := i2) (r := r) (i := i) (done := done) (by simp only [zzK, seval]) (by simp only [ownD_pos h0, zzK, seval]) vd (fun _ => ⟨r4, true, by simp [r1, r2, r3]⟩) (((vo.set r4).set k3).set k2) hk
            | false =>
              cases k27 : (k == 27) with
              | true =>
                simp only [k20, k21, k22, k23, k24, k27, Bool.or_false, Bool.false_or, Bool.false_eq_true, if_false, if_true] at hk
                simp (maxSteps := 1000000) only [k20, k21, k22, k23, k24, k27, g, v1, v2, v3, n1, n2, m1, m2, m3, m4, hok, tbX_e, tb124c_e, zzK, seval]
                refine ⟨.mk k t s n l, 1, by rw [enc_mk], ?_⟩
                simp only [Nd.lD]
                cases cl : (done.length == 1) with
                | false =>
                  have cl' : ((l.length : Int) == 1) = false := beq_eq_false_iff_ne.2 (by have := beq_eq_false_iff_ne.1 cl; omega)
                  have hk : E (faultD 125) h := by
                    match done, cl, hk with
                    | [], _, hk => exact hk
                    | [_], cl, _ => cases cl
                    | _ :: _ :: _, _, hk => exact hk
                  simp (maxSteps := 1000000) only [cl', cond_false, panD, leav_nil, finD, zzK, seval]
                  exact ⟨h, vo.sub, hk⟩
                | true =>
                  have cl' : ((l.length : Int) == 1) = true := beq_iff_eq.2 (by have := beq_iff_eq.1 cl; omega)
                  obtain ⟨x0, hdn⟩ : ∃ x0, done = [x0] := by
                    match done, cl with
                    | [x0], _ => exact ⟨x0, rfl⟩
                  subst hdn
                  have vd' : 1 = i := vd
                  subst vd'
                  have h0 : (1 : Nat) ≠ 0 := by decide
                  obtain ⟨r1, r2, r3, r4, hrr⟩ := vr h0
                  have hrr0 := hrr
                  have r1' : ¬ i1 = r := fun e => r1 e.symm
                  have r2' : ¬ i2 = r := fun e => r2 e.symm
                  have r3' : ¬ i3 = r := fun e => r3 e.symm
                  rw [ownD_pos h0] at v3
                  obtain ⟨xk, xt, xs, xn, xl⟩ := x0
                  simp only [encs_cons, encs_nil, enc_mk] at hrr
                  simp only [Nd.tD] at hk
                  simp (maxSteps := 1000000) only [cl', cond_true, q125c, v1, tbX_e, tb124c_e, zzK, seval]
                  cases d1 : numT t with
                  | false =>
                    simp only [d1, Bool.or_false, Bool.false_or, Bool.or_true, Bool.true_or, Bool.and_true, Bool.true_and, Bool.and_false, Bool.false_and, Bool.false_eq_true, if_false, if_true, crN_ok, crN_err, crP_ok, crP_err] at hk
                    simp (maxSteps := 1000000) only [d1, cNeed, q49c, crP_err, cond_false, panD, leav_nil, finD, zzK, seval]
                    exact ⟨h, vo.sub, hk⟩
                  | true =>
                    simp (maxSteps := 1000000) only [d1, cNeed, q49c, crP_ok, cond_true, q125c, v1, v2, v3, hrr, r1, r2, r3, r1', r2', r3', n1, n2, m1, m2, m3, m4, tbX_e, tb124c_e, zzK, seval]
                    cases d2 : numT xt with
                    | false =>
                      simp only [d1, d2, Bool.or_false, Bool.false_or, Bool.or_true, Bool.true_or, Bool.and_true, Bool.true_and, Bool.and_false, Bool.false_and, Bool.false_eq_true, if_false, if_true, crN_ok, crN_err, crP_ok, crP_err] at hk
                      simp (maxSteps := 1000000) only [d2, cNeed, q49c, crP_err, cond_false, panD, leav_nil, finD, zzK, seval]
                      exact ⟨h, vo.sub, hk⟩
                    | true =>
                      simp only [d1, d2, Bool.or_false, Bool.false_or, Bool.or_true, Bool.true_or, Bool.and_true, Bool.true_and, Bool.and_false, Bool.false_and, Bool.false_eq_true, if_false, if_true, crN_ok, crN_err, crP_ok, crP_err] at hk
                      simp (maxSteps := 1000000) only [d2, cNeed, q49c, crP_ok, cond_true, retD_ret, leav_nil, v1, v2, v3, hrr, r1, r2, r3, r1', r2', r3', n1, n2, m1, m2, m3, m4, tbX_e, tb124c_e, zzK, seval]
                      exact fin_node (i2 := i2) (r := r) (i := 1) (done := _) (by simp only [zzK, seval]) (by simp only [ownD_pos h0, zzK, seval]) vd (fun _ => ⟨r4, false, by simp [r1, r2, r3, hrr0]⟩) (vo.set k2) hk
              | false =>
                cases k25 : (k == 25) with
                | true =>
                  simp only [k20, k21, k22, k23, k24, k27, k25, Bool.or_false, Bool.false_or, Bool.false_eq_true, if_false, if_true] at hk
                  simp (maxSteps := 1000000) only [k20, k21, k22, k23, k24, k27, k25, g, v1, v2, v3, n1, n2, m1, m2, m3, m4, hok, tbX_e, tb124c_e, zzK, seval]
                  refine ⟨.mk k t s n l, 1, by rw [enc_mk], ?_⟩
                  simp only [Nd.lD]
                  cases cl : (done.length == 1) with
                  | false =>
                    have cl' : ((l.length : Int) == 1) = false := beq_eq_false_iff_ne.2 (by have := beq_eq_false_iff_ne.1 cl; omega)
                    have hk : E (faultD 125) h := by
                      match done, cl, hk with
                      | [], _, hk => exact hk
                      | [_], cl, _ => cases cl
                      | _ :: _ :: _, _, hk => exact hk
                    simp (maxSteps := 1000000) only [cl', cond_false, panD, leav_nil, finD, zzK, seval]
                    exact ⟨h, vo.sub, hk⟩
                  | true =>
                    have cl' : ((l.length : Int) == 1) = true := beq_iff_eq.2 (by have := beq_iff_eq.1 cl; omega)
                    obtain ⟨x0, hdn⟩ : ∃ x0, done = [x0] := by
                      match done, cl with
                      | [x0], _ => exact ⟨x0, rfl⟩
                    subst hdn
                    have vd' : 1 = i := vd
                    subst vd'
                    have h0 : (1 : Nat) ≠ 0 := by decide
                    obtain ⟨r1, r2, r3, r4, hrr⟩ := vr h0
                    have hrr0 := hrr
                    have r1' : ¬ i1 = r := fun e => r1 e.symm
                    have r2' : ¬ i2 = r := fun e => r2 e.symm
                    have r3' : ¬ i3 = r := fun e => r3 e.symm
                    rw [ownD_pos h0] at v3
                    obtain ⟨xk, xt, xs, xn, xl⟩ := x0
                    simp only [encs_cons, encs_nil, enc_mk] at hrr
                    simp only [Nd.tD] at hk
                    have ext3 : ∀ o, Ext h (hh.set i3 o) := fun o => vo.set k3
                    cases d1 : (s == ([45] : List UInt8)) with
                    | true =>
                      cases d2 : (s == ([33] : List UInt8)) with
                      | true => exact absurd ((beq_iff_eq.1 d1).symm.trans (beq_iff_eq.1 d2)) (by decide)
                      | false =>
                        cases d3 : numT xt with
                        | false =>
                          simp only [d1, d2, d3, Bool.or_false, Bool.false_or, Bool.or_true, Bool.true_or, Bool.and_true, Bool.true_and, Bool.and_false, Bool.false_and, Bool.false_eq_true, if_false, if_true, crN_ok, crN_err, crP_ok, crP_err] at hk
                          simp (maxSteps := 1000000) only [d1, d2, d3, cl', cNeed, q49c, q125c, crP_ok, crP_err, cond_true, cond_false, panD, leav_nil, finD, v1, v2, v3, hrr, r1, r2, r3, r1', r2', r3', n1, n2, m1, m2, m3, m4, tbX_e, tb124c_e, zzK, seval]
                          exact ⟨h, (ext3 _).sub, hk⟩
                        | true =>
                          simp only [d1, d2, d3, Bool.or_false, Bool.false_or, Bool.or_true, Bool.true_or, Bool.and_true, Bool.true_and, Bool.and_false, Bool.false_and, Bool.false_eq_true, if_false, if_true, crN_ok, crN_err, crP_ok, crP_err] at hk
                          simp (maxSteps := 1000000) only [d1, d2, d3, cl', cNeed, q49c, q125c, crP_ok, crP_err, cond_true, cond_false, retD_ret, leav_nil, v1, v2, v3, hrr, r1, r2, r3, r1', r2', r3', n1, n2, m1, m2, m3, m4, tbX_e, tb124c_e, zzK, seval]
                          exact fin_node (i2 := i2) (r := r) (i := 1) (done := _) (by simp only [zzK, seval]) (by simp only [ownD_pos h0, zzK, seval]) vd (fun _ => ⟨r4, false, by simp [r1, r2, r3, hrr0]⟩) ((vo.set k3).set k2) hk
                    | false =>
                      cases d2 : (s == ([33] : List UInt8)) with
                      | true =>
                        cases d3 : (xt == 3) with
                        | false =>
                          simp only [d1, d2, d3, Bool.or_false, Bool.false_or, Bool.or_true, Bool.true_or, Bool.and_true, Bool.true_and, Bool.and_false, Bool.false_and, Bool.false_eq_true, if_false, if_true, crN_ok, crN_err, crP_ok, crP_err] at hk
                          simp (maxSteps := 1000000) only [d1, d2, d3, cl', cNeed, q49c, q125c, crP_ok, crP_err, cond_true, cond_false, panD, leav_nil, finD, v1, v2, v3, hrr, r1, r2, r3, r1', r2', r3', n1, n2, m1, m2, m3, m4, tbX_e, tb124c_e, zzK, seval]
                          exact ⟨h, (ext3 _).sub, hk⟩
                        | true =>
                          simp only [d1, d2, d3, Bool.or_false, Bool.false_or, Bool.or_true, Bool.true_or, Bool.and_true, Bool.true_and, Bool.and_false, Bool.false_and, Bool.false_eq_true, if_false, if_true, crN_ok, crN_err, crP_ok, crP_err] at hk
                          simp (maxSteps := 1000000) only [d1, d2, d3, cl', cNeed, q49c, q125c, crP_ok, crP_err, cond_true, cond_false, retD_ret, leav_nil, v1, v2, v3, hrr, r1, r2, r3, r1', r2', r3', n1, n2, m1, m2, m3, m4, tbX_e, tb124c_e, zzK, seval]
                          exact fin_node (i2 := i2) (r := r) (i := 1) (done := _) (by simp only [zzK, seval]) (by simp only [ownD_pos h0, zzK, seval]) vd (fun _ => ⟨r4, false, by simp [r1, r2, r3, hrr0]⟩) ((vo.set k3).set k2) hk
                      | false =>
                        simp only [d1, d2, Bool.or_false, Bool.false_or, Bool.or_true, Bool.true_or, Bool.and_true, Bool.true_and, Bool.and_false, Bool.false_and, Bool.false_eq_true, if_false, if_true, crN_ok, crN_err, crP_ok, crP_err] at hk
                        simp (maxSteps := 1000000) only [d1, d2, cl', cNeed, q49c, q125c, crP_ok, crP_err, cond_true, cond_false, panD, leav_nil, finD, v1, v2, v3, hrr, r1, r2, r3, r1', r2', r3', n1, n2, m1, m2, m3, m4, tbX_e, tb124c_e, zzK, seval]
                        exact ⟨h, (ext3 _).sub, hk⟩
                | false =>
                  cases k26 : (k == 26) with
                  | false =>
                    simp only [k20, k21, k22, k23, k24, k27, k25, k26, Bool.or_false, Bool.false_or, Bool.or_true, Bool.true_or, Bool.and_true, Bool.true_and, Bool.and_false, Bool.false_and, Bool.false_eq_true, if_false, if_true, crN_ok, crN_err, crP_ok, crP_err] at hk
                    simp (maxSteps := 1000000) only [k20, k21, k22, k23, k24, k27, k25, k26, g, cNeed, q49c, crP_err, cond_false, panD, leav_nil, finD, v1, v2, v3, n1, n2, m1, m2, m3, m4, hok, tbX_e, tb124c_e, zzK, seval]
                    exact ⟨h, vo.sub, hk⟩
                  | true =>
                    simp only [k20, k21, k22, k23, k24, k27, k25, k26, Bool.or_false, Bool.false_or, Bool.false_eq_true, if_false, if_true] at hk
                    simp (maxSteps := 1000000) only [k20, k21, k22, k23, k24, k27, k25, k26, g, cNeed, q49c, crP_ok, cond_true, v1, v2, v3, n1, n2, m1, m2, m3, m4, hok, tbX_e, tb124c_e, zzK, seval]
                    refine ⟨.mk k t s n l, 2, by rw [enc_mk], ?_⟩
                    simp only [Nd.lD]
                    cases cl : (done.length == 2) with
                    | false =>
                      have cl' : ((l.length : Int) == 2) = false := beq_eq_false_iff_ne.2 (by have := beq_eq_false_iff_ne.1 cl; omega)
                      have hk : E (faultD 125) h := by
                        match done, cl, hk with
                        | [], _, hk => exact hk
                        | [_], _, hk => exact hk
                        | [_, _], cl, _ => cases cl
                        | _ :: _ :: _ :: _, _, hk => exact hk
                      simp (maxSteps := 1000000) only [cl', cond_false, panD, leav_nil, finD, zzK, seval]
                      exact ⟨h, vo.sub, hk⟩
                    | true =>
                      have cl' : ((l.length : Int) == 2) = true := beq_iff_eq.2 (by have := beq_iff_eq.1 cl; omega)
                      obtain ⟨x0, y0, hdn⟩ : ∃ x0 y0, done = [x0, y0] := by
                        match done, cl with
                        | [x0, y0], _ => exact ⟨x0, y0, rfl⟩
                      subst hdn
                      have vd' : 2 = i := vd
                      subst vd'
                      have h0 : (2 : Nat) ≠ 0 := by decide
                      obtain ⟨r1, r2, r3, r4, hrr⟩ := vr h0
                      have hrr0 := hrr
                      have r1' : ¬ i1 = r := fun e => r1 e.symm
                      have r2' : ¬ i2 = r := fun e => r2 e.symm
                      have r3' : ¬ i3 = r := fun e => r3 e.symm
                      rw [ownD_pos h0] at v3
                      obtain ⟨xk, xt, xs, xn, xl⟩ := x0
                      obtain ⟨yk, yt, ys, yn, yl⟩ := y0
                      simp only [encs_cons, encs_nil, enc_mk] at hrr
                      simp only [Nd.tD] at hk
                      simp (maxSteps := 1000000) only [cl', cond_true, v1, v2, v3, hrr, r1, r2, r3, r1', r2', r3', n1, n2, m1, m2, m3, m4, tbX_e, tb124c_e, zzK, seval]
                      simp only [cBin, q126c]
                      cases hv : binF s xt yt with
                      | error e =>
                        rw [hv] at hk
                        simp only [crN_err, crR_err, crP_err] at hk ⊢
                        intro σ hσ _
                        simp only [panD]
                        rw [hσ]
                        simp only [leav_nil, finD]
                        exact ⟨h, vo.sub, hk⟩
                      | ok t' =>
                        rw [hv] at hk
                        simp only [crN_ok, crR_ok, crP_ok] at hk ⊢
                        simp (maxSteps := 1000000) only [retD_ret, leav_nil, v1, v2, v3, hrr, r1, r2, r3, r1', r2', r3', n1, n2, m1, m2, m3, m4, tbX_e, tb124c_e, zzK, seval]
                        exact fin_node (i2 := i2) (r := r) (i := 2) (done := _) (by simp only [zzK, seval]) (by simp only [ownD_pos h0, zzK, seval]) vd (fun _ => ⟨r4, false, by simp [r1, r2, r3, hrr0]⟩) ((vo.set k3).set k2) hk
theorem tbX_ok : ∀ G, (tbX G).ok Tryz.prog
  | 0 => Tab.addE_ok tb124c_ok fun args h K E ⟨c, p, sc, dn, dt, ans, x, a, b, d, e, k⟩ => absurd d (Nat.not_lt_zero _)
  | G + 1 => Tab.addE_ok tb124c_ok fun args h K E ⟨c, p, sc, dn, dt, ans, x, a, b, d, e, k⟩ => by
    subst a
    exact expr_step G (tbX_ok G) c p sc dn dt ans x d e h b K E k
def cEx (args : List D) (h : AHeap) (K E : D → AHeap → Prop) : Prop := ∃ (c : Nat) (p : Nd) (sc : Scp) (dn dt : D) (ans : Int) (x : Nd), args = [.ptr c 1 0, .agg x.enc] ∧ ScAt h c p sc dn dt ans ∧ x.cnt ≤ 1000000 ∧ crP K E h (some (crN (exprF p.lD sc x)))
theorem cEx_mono (args : List D) (h : AHeap) (K E K' E' : D → AHeap → Prop) (hk : ∀ d h, K d h → K' d h) (he : ∀ d h, E d h → E' d h) (c : cEx args h K E) : cEx args h K' E' := by
  obtain ⟨c, p, sc, dn, dt, ans, x, a, b, e, k⟩ := c
  exact ⟨c, p, sc, dn, dt, ans, x, a, b, e, crP_mono hk he k⟩
theorem cEx_ok (args : List D) (h : AHeap) (K E : D → AHeap → Prop) (c : cEx args h K E) : ACalls Tryz.prog 97 args h (AOut.to K E) := by
  obtain ⟨c, p, sc, dn, dt, ans, x, rfl, b, e, k⟩ := c
  exact expr_step x.cnt (tbX_ok _) c p sc dn dt ans x (Nat.lt_succ_self _) e h b K E k
def tb97c : Tab := tb124c.addE 97 cEx cEx_mono
theorem tb97c_q : tb97c.q = tb124c.q := rfl
theorem tb97c_a : tb97c.a = tb124c.a := rfl
theorem tb97c_c (g : FuncId) (args : List D) (h : AHeap) (K E : D → AHeap → Prop) : tb97c.c g args h K E = if g = 97 then cEx args h K E else tb124c.c g args h K E := rfl
theorem tb97c_ok : tb97c.ok Tryz.prog := Tab.addE_ok tb124c_ok cEx_ok
theorem tb97c_e : type_of% (And.intro (And.intro @tb97c_q (And.intro @tb97c_a @tb97c_c)) @tb124c_e) := (And.intro (And.intro @tb97c_q (And.intro @tb97c_a @tb97c_c)) @tb124c_e)
end
end Go.Proofs.YtpagdhbmbnoddaaGreatDoor.Zz
