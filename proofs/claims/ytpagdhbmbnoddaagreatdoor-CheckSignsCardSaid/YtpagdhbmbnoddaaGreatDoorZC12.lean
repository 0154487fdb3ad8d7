/- Contracts: statements and blocks of any size. -/
import Derived.Test.YtpagdhbmbnoddaaGreatDoorZC10
import Derived.Test.YtpagdhbmbnoddaaGreatDoorZP1
set_option linter.unnecessarySimpa false
set_option linter.unusedVariables false
set_option linter.unusedSimpArgs false
set_option maxRecDepth 20000
namespace Go.Proofs.YtpagdhbmbnoddaaGreatDoor.Zz
noncomputable section
theorem tbSt_ok : ∀ G, (tbSt G).ok Tryz.prog
  | 0 => Tab.addE_ok tb76c_ok fun args h K E ⟨c, p, sc, dn, dt, ans, x, a, b, d, e, k⟩ => absurd d (Nat.not_lt_zero _)
  | G + 1 => Tab.addE_ok tb76c_ok fun args h K E ⟨c, p, sc, dn, dt, ans, x, a, b, d, e, k⟩ => by
    subst a
    exact stmt_step G (tbBl_ok (tbSt_ok G)) c p sc dn dt ans x d e h b K E k
def cBl (args : List D) (h : AHeap) (K E : D → AHeap → Prop) : Prop := ∃ (c : Nat) (p : Nd) (sc : Scp) (dn dt : D) (ans : Int) (x : Nd), args = [.ptr c 1 0, .agg x.enc] ∧ ScAt h c p sc dn dt ans ∧ x.cnt + sc.length ≤ 1000000 ∧
  (match blockF p.lD ans x sc with
  | .ok x' => ∀ h' dn' dt', ScAt h' c p sc dn' dt' ans → Grow h h' c → K (.agg x'.enc) h'
  | .error e => ∀ h', Grow h h' c → E (faultD e) h')
theorem cBl_mono (args : List D) (h : AHeap) (K E K' E' : D → AHeap → Prop) (hk : ∀ d h, K d h → K' d h) (he : ∀ d h, E d h → E' d h) (c : cBl args h K E) : cBl args h K' E' := by
  obtain ⟨c, p, sc, dn, dt, ans, x, a, b, e, k⟩ := c
  refine ⟨c, p, sc, dn, dt, ans, x, a, b, e, ?_⟩
  split at k
  · exact fun h' dn' dt' x y => hk _ _ (k h' dn' dt' x y)
  · exact fun h' g => he _ _ (k h' g)
theorem cBl_ok (args : List D) (h : AHeap) (K E : D → AHeap → Prop) (c : cBl args h K E) : ACalls Tryz.prog 75 args h (AOut.to K E) := by
  obtain ⟨c, p, sc, dn, dt, ans, x, rfl, b, e, k⟩ := c
  exact block_step x.cnt (tbSt_ok _) c p sc dn dt ans x (Nat.lt_succ_self _) e h b K E k
def tb75c : Tab := tb76c.addE 75 cBl cBl_mono
theorem tb75c_q : tb75c.q = tb76c.q := rfl
theorem tb75c_a : tb75c.a = tb76c.a := rfl
theorem tb75c_c (g : FuncId) (args : List D) (h : AHeap) (K E : D → AHeap → Prop) : tb75c.c g args h K E = if g = 75 then cBl args h K E else tb76c.c g args h K E := rfl
theorem tb75c_ok : tb75c.ok Tryz.prog := Tab.addE_ok tb76c_ok cBl_ok
theorem tb75c_e : type_of% (And.intro (And.intro @tb75c_q (And.intro @tb75c_a @tb75c_c)) @tb76c_e) := (And.intro (And.intro @tb75c_q (And.intro @tb75c_a @tb75c_c)) @tb76c_e)
def p78c : Plan := ⟨⟨[], [], [], [], [], []⟩, [], [], false⟩
def s78c : Stm :=
 .seq (.ops [⟨.box (.t 0), some 1, none, false⟩,
 ⟨.mov (.c (.bool false)), some 2, none, true⟩])
 (.seq (.seq (.ops [⟨.fieldAddr 4 (.t 1), some 4, none, true⟩,
 ⟨.load none (.t 4), some 5, none, false⟩,
 ⟨.len .sl (.t 5), some 6, none, false⟩,
 ⟨.bin .eql (.t 6) (.c (.int .i64 0)), some 7, none, true⟩])
 (.cond (.t 7)
 (.seq (.ops [⟨.mov (.c (.bool false)), some 2, none, true⟩])
 (.ret))
 (.skip)))
 (.seq (.seq (.ops [⟨.fieldAddr 4 (.t 1), some 8, none, true⟩,
 ⟨.load none (.t 8), some 9, none, false⟩,
 ⟨.fieldAddr 4 (.t 1), some 10, none, true⟩,
 ⟨.load none (.t 10), some 11, none, false⟩,
 ⟨.len .sl (.t 11), some 12, none, false⟩,
 ⟨.bin .sub (.t 12) (.c (.int .i64 1)), some 13, none, true⟩,
 ⟨.indexAddrS 5 (.t 9) (.t 13), some 14, none, false⟩,
 ⟨.load (some 5) (.t 14), some 15, none, false⟩,
 ⟨.alloc [(.int .i64 0), (.int .i64 0), (.str []), (.int .i64 0), .nilsl], some 3, none, false⟩,
 ⟨.store 5 (.t 3) (.t 15), none, none, false⟩])
 (.seq (.ops [⟨.fieldAddr 0 (.t 3), some 16, none, true⟩,
 ⟨.load none (.t 16), some 17, none, false⟩])
 (.block 0 (.seq (.ops [⟨.bin .eql (.t 17) (.c (.int .i64 11)), some 19, none, true⟩,
 ⟨.mov (.t 19), some 18, none, true⟩])
 (.cond (.t 18)
 (.seq (.ops [⟨.mov (.c (.bool true)), some 2, none, true⟩])
 (.ret))
 (.seq (.ops [⟨.bin .eql (.t 17) (.c (.int .i64 9)), some 21, none, true⟩,
 ⟨.mov (.t 21), some 20, none, true⟩])
 (.cond (.t 20)
 (.seq (.ops [⟨.fieldAddr 4 (.t 3), some 22, none, true⟩,
 ⟨.load none (.t 22), some 23, none, false⟩,
 ⟨.len .sl (.t 23), some 24, none, false⟩,
 ⟨.bin .eql (.t 24) (.c (.int .i64 3)), some 25, none, true⟩,
 ⟨.mov (.t 25), some 26, none, true⟩,
 ⟨.fieldAddr 4 (.t 3), some 27, (some (26, true)), true⟩,
 ⟨.load none (.t 27), some 28, (some (26, true)), false⟩,
 ⟨.indexAddrS 5 (.t 28) (.c (.int .i64 1)), some 29, (some (26, true)), false⟩,
 ⟨.load (some 5) (.t 29), some 30, (some (26, true)), false⟩,
 ⟨.qcall (.f 78) [(.t 30)], some 31, (some (26, true)), false⟩,
 ⟨.pick (.t 26) (.t 31) (.c (.bool false)), some 32, none, true⟩,
 ⟨.mov (.t 32), some 33, none, true⟩,
 ⟨.fieldAddr 4 (.t 3), some 34, (some (33, true)), true⟩,
 ⟨.load none (.t 34), some 35, (some (33, true)), false⟩,
 ⟨.indexAddrS 5 (.t 35) (.c (.int .i64 2)), some 36, (some (33, true)), false⟩,
 ⟨.load (some 5) (.t 36), some 37, (some (33, true)), false⟩,
 ⟨.qcall (.f 78) [(.t 37)], some 38, (some (33, true)), false⟩,
 ⟨.pick (.t 33) (.t 38) (.c (.bool false)), some 39, none, true⟩,
 ⟨.mov (.t 39), some 2, none, true⟩])
 (.ret))
 (.seq (.ops [⟨.bin .eql (.t 17) (.c (.int .i64 6)), some 41, none, true⟩,
 ⟨.mov (.t 41), some 40, none, true⟩])
 (.cond (.t 40)
 (.seq (.ops [⟨.load (some 5) (.t 3), some 42, none, false⟩,
 ⟨.qcall (.f 78) [(.t 42)], some 43, none, false⟩,
 ⟨.mov (.t 43), some 2, none, true⟩])
 (.ret))
 (.skip))))))))))
 (.seq (.ops [⟨.mov (.c (.bool false)), some 2, none, true⟩])
 (.ret))))
theorem st78c : stmOf Tryz.prog 78 p78c = some (s78c, [.tmp 2], 44) := by kernel_rfl
open Classical in
def qE (G : Nat) (args : List D) : Option D := if h : ∃ x : Nd, x.cnt < G ∧ args = [.agg x.enc] then some (.bool (endsF (Classical.choose h))) else none
theorem qE_enc {G : Nat} {x : Nd} (hx : x.cnt < G) : qE G [.agg x.enc] = some (.bool (endsF x)) := by
  have h : ∃ y : Nd, y.cnt < G ∧ [D.agg x.enc] = [.agg y.enc] := ⟨x, hx, rfl⟩
  rw [qE, dif_pos h]
  have e := (Classical.choose_spec h).2
  injection e with e1
  injection e1 with e1
  rw [← enc_inj _ _ e1]
theorem qE_ok {G : Nat} (hG : ∀ x : Nd, x.cnt < G → PCall Tryz.prog 78 [.agg x.enc] (.bool (endsF x))) (args : List D) (d : D) (h : qE G args = some d) : PCall Tryz.prog 78 args d := by
  unfold qE at h
  split at h
  · rename_i hx
    have e := Classical.choose_spec hx
    cases h
    obtain ⟨x, hp⟩ : ∃ x, x = Classical.choose hx := ⟨_, rfl⟩
    rw [← hp] at e ⊢
    obtain ⟨e1, rfl⟩ := e
    exact hG x e1
  · cases h
theorem endsL_snoc (L : List Nd) (b : Nd) : endsL (L ++ [b]) = endsS b := by
  induction L with
  | nil => rw [List.nil_append, endsL]
  | cons x L ih =>
    cases L with
    | nil => rw [List.cons_append, List.nil_append, endsL, endsL]
    | cons y L => rw [List.cons_append, List.cons_append, endsL]; exact ih
theorem ends_step (G : Nat) (hT : (Tab.zero.addQ 78 (qE G)).ok Tryz.prog) (x : Nd) (hx : x.cnt < G + 1) : PCall Tryz.prog 78 [.agg x.enc] (.bool (endsF x)) := by
  refine PCall.run hT st78c (by simp) fun E => ?_
  have hT_q : ∀ g args, (Tab.zero.addQ 78 (qE G)).q g args = if g = 78 then qE G args else Tab.zero.q g args := fun g args => rfl
  generalize Tab.zero.addQ 78 (qE G) = TT at hT_q ⊢
  obtain ⟨k, t, s, n, l⟩ := x
  have hcnt : ∀ y ∈ l, y.cnt < G := fun y hy => by have := cnt_kid (k := k) (t := t) (s := s) (n := n) hy; omega
  rw [enc_mk, endsF]
  rcases List.eq_nil_or_concat l with rfl | ⟨L, b, rfl⟩
  · simp (maxSteps := 1000000) only [s78c, encs_nil, len_encs, hT_q, endsL, zzK, seval]
    try simp
  · have hb : (L ++ [b])[L.length]? = some b := by simp
    have hac : ∀ (K : D → AHeap → Prop) (h : AHeap), askE 5 K h (Nd.encs (L ++ [b])) (L.length : Int) = K (.eptr b.enc 0) h := fun K h => askE_encs hb
    simp only [List.concat_eq_append] at hcnt ⊢
    rw [endsL_snoc]
    have hbc := hcnt b (by simp)
    have c0c : (((L.length + 1 : Nat) : Int) == 0) = false := beq_eq_false_iff_ne.2 (by omega)
    obtain ⟨bk, bt, bs, bn, bl⟩ := b
    simp only [enc_mk] at hac
    rw [endsS.eq_def]
    simp only
    have hS : qE G [.agg (Nd.enc (.mk bk bt bs bn bl))] = some (.bool (endsF (.mk bk bt bs bn bl))) := qE_enc hbc
    rw [enc_mk, endsF] at hS
    simp (maxSteps := 1000000) only [s78c, c0c, len_encs, List.length_append, List.length_cons, List.length_nil, hT_q, zzK, seval]
    intro i1 hl _
    have hw : IntKind.i64.wrap (((L.length + 1 : Nat) : Int) - 1) = (L.length : Int) := by
      rw [show ((L.length + 1 : Nat) : Int) - 1 = (L.length : Int) by omega]
      exact wrap_nat (by omega)
    rw [hw]
    simp (maxSteps := 1000000) only [hac, len_encs, hT_q, zzK, seval]
    intro i2 n1 n2
    cases k11 : (bk == 11) with
    | true => simp (maxSteps := 1000000) only [k11, n1, n2, if_true, hT_q, zzK, seval]
    | false =>
      cases k9 : (bk == 9) with
      | false =>
        cases k6 : (bk == 6) with
        | true => simp (maxSteps := 1000000) only [k11, k9, k6, hS, n1, n2, if_true, Bool.false_eq_true, if_false, hT_q, zzK, seval]
        | false => simp (maxSteps := 1000000) only [k11, k9, k6, hS, n1, n2, if_true, Bool.false_eq_true, if_false, hT_q, zzK, seval]
      | true =>
        simp (maxSteps := 1000000) only [k11, k9, hS, n1, n2, if_true, Bool.false_eq_true, if_false, len_encs, hT_q, zzK, seval]
        intro _
        cases cl : (bl.length == 3) with
        | false =>
          have cl' : ((bl.length : Int) == 3) = false := beq_eq_false_iff_ne.2 (by have := beq_eq_false_iff_ne.1 cl; omega)
          simp only [cl', Bool.false_eq_true, if_false]
          refine .inl ?_
          rcases bl with _ | ⟨a0, _ | ⟨a1, _ | ⟨a2, _ | ⟨a3, r⟩⟩⟩⟩ <;> first | rfl | cases cl
        | true =>
          obtain ⟨a0, a1, a2, rfl⟩ : ∃ a0 a1 a2, bl = [a0, a1, a2] := by
            match bl, cl with
            | [a0, a1, a2], _ => exact ⟨a0, a1, a2, rfl⟩
          have c1c : a1.cnt < G := by have := cnt_kid (k := bk) (t := bt) (s := bs) (n := bn) (show a1 ∈ [a0, a1, a2] by simp); omega
          have c2c : a2.cnt < G := by have := cnt_kid (k := bk) (t := bt) (s := bs) (n := bn) (show a2 ∈ [a0, a1, a2] by simp); omega
          have h1 := qE_enc c1c
          have h2 := qE_enc c2c
          have hac1 : ∀ (K : D → AHeap → Prop) (h : AHeap), askE 5 K h (Nd.encs [a0, a1, a2]) (1 : Int) = K (.eptr a1.enc 0) h := fun K h => askE_encs (l := [a0, a1, a2]) (i := 1) rfl
          have hac2 : ∀ (K : D → AHeap → Prop) (h : AHeap), askE 5 K h (Nd.encs [a0, a1, a2]) (2 : Int) = K (.eptr a2.enc 0) h := fun K h => askE_encs (l := [a0, a1, a2]) (i := 2) rfl
          have cl' : ((([a0, a1, a2] : List Nd).length : Int) == 3) = true := rfl
          obtain ⟨k1, t1, s1c, m1, l1⟩ := a1
          obtain ⟨k2, t2, s2c, m2, l2⟩ := a2
          rw [enc_mk] at h1 h2
          simp only [enc_mk] at hac1 hac2
          simp only [cl', if_true]
          cases e1 : endsF (.mk k1 t1 s1c m1 l1) <;> cases e2 : endsF (.mk k2 t2 s2c m2 l2) <;> rw [e1] at h1 <;> rw [e2] at h2 <;>
            simp (maxSteps := 1000000) only [hac1, hac2, h1, h2, e1, e2, Bool.and_true, Bool.and_false, Bool.true_and, Bool.false_and, n1, n2, hT_q, zzK, seval]
theorem ends_all : ∀ (G : Nat) (x : Nd), x.cnt < G → PCall Tryz.prog 78 [.agg x.enc] (.bool (endsF x))
  | 0, x, h => absurd h (Nat.not_lt_zero _)
  | G + 1, x, h => ends_step G (Tab.addQ_ok (Tab.zero_ok _) (qE_ok (ends_all G))) x h
open Classical in
def qEnd (args : List D) : Option D := if h : ∃ x : Nd, args = [.agg x.enc] then some (.bool (endsF (Classical.choose h))) else none
theorem qEnd_enc (x : Nd) : qEnd [.agg x.enc] = some (.bool (endsF x)) := by
  have h : ∃ y : Nd, [D.agg x.enc] = [.agg y.enc] := ⟨x, rfl⟩
  rw [qEnd, dif_pos h]
  have e := Classical.choose_spec h
  injection e with e1
  injection e1 with e1
  rw [← enc_inj _ _ e1]
theorem qEnd_ok (args : List D) (d : D) (h : qEnd args = some d) : PCall Tryz.prog 78 args d := by
  unfold qEnd at h
  split at h
  · rename_i hx
    have e := Classical.choose_spec hx
    cases h
    obtain ⟨x, hp⟩ : ∃ x, x = Classical.choose hx := ⟨_, rfl⟩
    rw [← hp] at e ⊢
    subst e
    exact ends_all (x.cnt + 1) x (Nat.lt_succ_self _)
  · cases h
def tb78c : Tab := tb75c.addQ 78 qEnd
theorem tb78c_q (g : FuncId) (args : List D) : tb78c.q g args = if g = 78 then qEnd args else tb75c.q g args := rfl
theorem tb78c_a : tb78c.a = tb75c.a := rfl
theorem tb78c_c : tb78c.c = tb75c.c := rfl
theorem tb78c_ok : tb78c.ok Tryz.prog := Tab.addQ_ok tb75c_ok qEnd_ok
theorem tb78c_e : type_of% (And.intro (And.intro @tb78c_q (And.intro @tb78c_a @tb78c_c)) @tb75c_e) := (And.intro (And.intro @tb78c_q (And.intro @tb78c_a @tb78c_c)) @tb75c_e)
end
end Go.Proofs.YtpagdhbmbnoddaaGreatDoor.Zz
namespace Go.Proofs.YtpagdhbmbnoddaaGreatDoor.Zz
noncomputable section
def p32p : Plan := ⟨⟨[], [(3, 1)], [], [], [], []⟩, [], [], false⟩
def s32p : Stm :=
 .seq (.ops [⟨.box (.t 1), some 3, none, false⟩,
 ⟨.alloc [(.int .i64 0), (.int .i64 0), (.str []), (.int .i64 0), .nilsl], some 4, none, false⟩])
 (.seq (.seq (.ops [⟨.mov (.t 0), some 5, none, true⟩,
 ⟨.nilCheck (.t 5), some 6, none, true⟩,
 ⟨.fieldAddr 2 (.t 6), some 7, none, true⟩,
 ⟨.load none (.t 7), some 8, none, false⟩,
 ⟨.bin .add (.t 8) (.c (.int .i64 1)), some 9, none, true⟩,
 ⟨.nilCheck (.t 5), some 10, none, true⟩,
 ⟨.fieldAddr 2 (.t 10), some 11, none, true⟩,
 ⟨.store 1 (.t 11) (.t 9), none, none, false⟩])
 (.seq (.ops [⟨.mov (.t 0), some 12, none, true⟩,
 ⟨.nilCheck (.t 12), some 13, none, true⟩,
 ⟨.fieldAddr 2 (.t 13), some 14, none, true⟩,
 ⟨.load none (.t 14), some 15, none, false⟩,
 ⟨.bin .gtr (.t 15) (.c (.int .i64 2000)), some 16, none, true⟩])
 (.cond (.t 16)
 (.ops [⟨.mov (.t 0), some 17, none, true⟩,
 ⟨.call (.f 35) [(.t 17), (.c (.int .i64 3))], some 18, none, false⟩])
 (.skip))))
 (.seq (.ops [⟨.load (some 5) (.t 3), some 19, none, false⟩,
 ⟨.store 5 (.t 4) (.t 19), none, none, false⟩])
 (.ret)))
theorem st32p : stmOf Tryz.prog 32 p32p = some (s32p, [.cell 4 (some 5)], 20) := by kernel_rfl
def p45p : Plan := ⟨⟨[], [], [], [], [], []⟩, [], [], false⟩
def s45p : Stm :=
 .seq (.ops [⟨.mov (.c (.str [])), some 2, none, true⟩])
 (.seq (.seq (.ops [⟨.mov (.t 0), some 3, none, true⟩])
 (.block 0 (.seq (.ops [⟨.bin .eql (.t 3) (.c (.int .i64 1)), some 5, none, true⟩,
 ⟨.mov (.t 5), some 4, none, true⟩])
 (.cond (.t 4)
 (.seq (.ops [⟨.mov (.c (.str [105, 110, 116])), some 2, none, true⟩])
 (.ret))
 (.seq (.ops [⟨.bin .eql (.t 3) (.c (.int .i64 2)), some 7, none, true⟩,
 ⟨.mov (.t 7), some 6, none, true⟩])
 (.cond (.t 6)
 (.seq (.ops [⟨.mov (.c (.str [102, 108, 111, 97, 116])), some 2, none, true⟩])
 (.ret))
 (.seq (.ops [⟨.bin .eql (.t 3) (.c (.int .i64 3)), some 9, none, true⟩,
 ⟨.mov (.t 9), some 8, none, true⟩])
 (.cond (.t 8)
 (.seq (.ops [⟨.mov (.c (.str [98, 111, 111, 108])), some 2, none, true⟩])
 (.ret))
 (.skip)))))))))
 (.seq (.ops [⟨.mov (.c (.str [])), some 2, none, true⟩])
 (.ret)))
theorem st45p : stmOf Tryz.prog 45 p45p = some (s45p, [.tmp 2], 10) := by kernel_rfl
def p62p : Plan := ⟨⟨[], [(4, 3), (6, 1)], [], [], [], []⟩, [], [], false⟩
def s62p : Stm :=
 .seq (.ops [⟨.mov (.c (.int .i64 0)), some 2, none, true⟩])
 (.seq (.seq (.ops [⟨.mov (.c (.int .i64 1)), some 3, none, true⟩])
 (.block 0 (.loop (.seq (.seq (.ops [⟨.mov (.t 3), some 4, none, true⟩,
 ⟨.bin .leq (.t 4) (.c (.int .i64 3)), some 5, none, true⟩])
 (.cond (.t 5)
 (.skip)
 (.exit 0)))
 (.seq (.block 1 (.seq (.ops [⟨.mov (.t 0), some 8, none, true⟩,
 ⟨.mov (.t 3), some 9, none, true⟩,
 ⟨.qcall (.f 45) [(.t 9)], some 10, none, false⟩,
 ⟨.call (.f 60) [(.t 8), (.t 10)], some 11, none, false⟩])
 (.cond (.t 11)
 (.seq (.ops [⟨.mov (.t 3), some 12, none, true⟩,
 ⟨.mov (.t 12), some 2, none, true⟩])
 (.ret))
 (.skip))))
 (.ops [⟨.mov (.t 3), some 6, none, true⟩,
 ⟨.bin .add (.t 6) (.c (.int .i64 1)), some 7, none, true⟩,
 ⟨.mov (.t 7), some 3, none, true⟩]))))))
 (.seq (.ops [⟨.mov (.t 0), some 13, none, true⟩,
 ⟨.call (.f 35) [(.t 13), (.c (.int .i64 110))], some 14, none, false⟩])
 (.seq (.ops [⟨.mov (.c (.int .i64 0)), some 2, none, true⟩])
 (.ret))))
theorem st62p : stmOf Tryz.prog 62 p62p = some (s62p, [.tmp 2], 15) := by kernel_rfl
def p86p : Plan := ⟨⟨[], [(3, 1)], [], [], [], []⟩, [], [], false⟩
def s86p : Stm :=
 .seq (.ops [⟨.box (.t 0), some 1, none, false⟩,
 ⟨.mov (.c .nilfunc), some 2, none, true⟩])
 (.seq (.seq (.ops [⟨.load none (.t 1), some 3, none, false⟩,
 ⟨.nilCheck (.t 3), some 4, none, true⟩,
 ⟨.fieldAddr 3 (.t 4), some 5, none, true⟩,
 ⟨.load none (.t 5), some 6, none, false⟩,
 ⟨.bin .add (.t 6) (.c (.int .i64 1)), some 7, none, true⟩,
 ⟨.nilCheck (.t 3), some 8, none, true⟩,
 ⟨.fieldAddr 3 (.t 8), some 9, none, true⟩,
 ⟨.store 1 (.t 9) (.t 7), none, none, false⟩])
 (.seq (.ops [⟨.load none (.t 1), some 10, none, false⟩,
 ⟨.nilCheck (.t 10), some 11, none, true⟩,
 ⟨.fieldAddr 3 (.t 11), some 12, none, true⟩,
 ⟨.load none (.t 12), some 13, none, false⟩,
 ⟨.bin .gtr (.t 13) (.c (.int .i64 40)), some 14, none, true⟩])
 (.cond (.t 14)
 (.ops [⟨.load none (.t 1), some 15, none, false⟩,
 ⟨.call (.f 35) [(.t 15), (.c (.int .i64 3))], some 16, none, false⟩])
 (.skip))))
 (.seq (.ops [⟨.mkFunc (.func 103) [] [(.t 1)], some 17, none, true⟩,
 ⟨.mov (.t 17), some 2, none, true⟩])
 (.ret)))
theorem st86p : stmOf Tryz.prog 86 p86p = some (s86p, [.tmp 2], 18) := by kernel_rfl
def p103p : Plan := ⟨⟨[], [], [], [], [], []⟩, [], [], false⟩
def s103p : Stm :=
 .ops [⟨.load none (.t 0), some 1, none, false⟩,
 ⟨.nilCheck (.t 1), some 2, none, true⟩,
 ⟨.fieldAddr 3 (.t 2), some 3, none, true⟩,
 ⟨.load none (.t 3), some 4, none, false⟩,
 ⟨.bin .sub (.t 4) (.c (.int .i64 1)), some 5, none, true⟩,
 ⟨.nilCheck (.t 1), some 6, none, true⟩,
 ⟨.fieldAddr 3 (.t 6), some 7, none, true⟩,
 ⟨.store 1 (.t 7) (.t 5), none, none, false⟩]
theorem st103p : stmOf Tryz.prog 103 p103p = some (s103p, [], 8) := by kernel_rfl
def typeN (t : Int) : List UInt8 := bif t == 1 then wInt else bif t == 2 then wFloat else bif t == 3 then wBool else []
theorem typeName_c (t : Int) : PCall Tryz.prog 45 [.int .i64 t] (.str (typeN t)) := by
  refine PCall.run (Tab.zero_ok _) st45p (by simp) fun E => ?_
  unfold typeN
  cases c1p : (t == 1) <;> cases c2p : (t == 2) <;> cases c3p : (t == 3)
  all_goals simp (maxSteps := 1000000) only [s45p, c1p, c2p, c3p, wInt, wFloat, wBool, zzK, seval]
def q45p : List D → Option D
  | [.int .i64 t] => some (.str (typeN t))
  | _ => none
theorem q45p_ok (args : List D) (d : D) (h : q45p args = some d) : PCall Tryz.prog 45 args d := by
  unfold q45p at h
  split at h
  · cases h; exact typeName_c _
  · cases h
def tb45p : Tab := tb61p.addQ 45 q45p
theorem tb45p_q (g : FuncId) (args : List D) : tb45p.q g args = if g = 45 then q45p args else tb61p.q g args := rfl
theorem tb45p_a : tb45p.a = tb61p.a := rfl
theorem tb45p_c : tb45p.c = tb61p.c := rfl
theorem tb45p_ok : tb45p.ok Tryz.prog := Tab.addQ_ok tb61p_ok q45p_ok
theorem tb45p_e : type_of% (And.intro (And.intro @tb45p_q (And.intro @tb45p_a @tb45p_c)) @tb61p_e) := (And.intro (And.intro @tb45p_q (And.intro @tb45p_a @tb45p_c)) @tb61p_e)
theorem typ_c (l : List Tok) (hl : LOk l) (s : PS) (id : Nat) (ok : PSok l s) (K0 : Int → PS → Prop) (E0 : Int → Int → Prop) (hw : wpR (pTyp l s) (fun x s' => PSok l s' → K0 x s') E0) : ACalls Tryz.prog 62 [.ptr id 1 0] (AHeap.emp.set id (pObj l s)) (retP (fun t => D.int .i64 t) l id K0 E0) := by
  refine ACalls.of_stmD tb45p_ok (dc := DTab.none) (fun _ _ => DTab.none_ok) (by kernel_rfl) st62p (by simp) ?_
  rw [vc_todo]
  simp (maxSteps := 1000000) only [s62p, tb45p_e, zzK, seval]
  refine run_loop (X := Nat) (fun i => [(0, .ptr id 1 0), (3, .int .i64 i)]) (fun _ => AHeap.emp.set id (pObj l s)) (fun i => 4 - i) (fun i => 1 ≤ i ∧ i ≤ 4 ∧ ∀ j : Nat, 1 ≤ j → j < i → pIs l (typeN j) s = false) 1 ⟨by omega, by omega, fun j h1 h2 => by omega⟩ (by simp only [zzK, seval]) (AHeap.sub_refl _) ?_
  rintro i Q ⟨i1, i2, i3⟩ hQ
  have hstep : ∀ (hi : i ≤ 3) (b : Bool), pIs l (typeN i) s = b → (b = true → wpR (pTyp l s) (fun x s' => PSok l s' → K0 x s') E0 → K0 i (pStep s)) := fun hi b hb e hw => by
    subst e
    have ok' := pIs_fin hl ok hb
    have e1 : 1 < i → pIs l wInt s = false := fun h => i3 1 (by omega) h
    have e2 : 2 < i → pIs l wFloat s = false := fun h => i3 2 (by omega) h
    unfold pTyp at hw
    rcases (by omega : i = 1 ∨ i = 2 ∨ i = 3) with rfl | rfl | rfl
    · have hb : pIs l wInt s = true := hb
      rw [hb] at hw; exact hw ok'
    · have hb : pIs l wFloat s = true := hb
      rw [e1 (by omega), hb] at hw; exact hw ok'
    · have hb : pIs l wBool s = true := hb
      rw [e1 (by omega), e2 (by omega), hb] at hw; exact hw ok'
  by_cases c0p : i ≤ 3
  · have g : ((i : Int) ≤ 3) = True := eq_true (by omega)
    have hq : q45p [.int .i64 i] = some (.str (typeN i)) := rfl
    have wi : IntKind.i64.wrap ((i : Int) + 1) = ((i + 1 : Nat) : Int) := wrap_succ (by omega)
    simp (maxSteps := 1000000) only [g, hq, tb45p_e, zzK, seval]
    refine ⟨l, s, id, typeN i, rfl, hl, by simp, ok, ?_⟩
    unfold pTake
    cases c : pIs l (typeN i) s with
    | true =>
      rw [cond_true, wpR_ok]
      intro ok'
      simp (maxSteps := 1000000) only [retD_ret, leav_nil, finD, tb45p_e, zzK, seval]
      exact mid_ret (x := (i : Int)) (s' := pStep s) rfl (by simp) (hstep c0p true c rfl hw)
    | false =>
      rw [cond_false, wpR_ok]
      intro _
      simp (maxSteps := 1000000) only [wi, tb45p_e, zzK, seval]
      refine hQ (i + 1) _ _ ⟨by omega, by omega, fun j h1 h2 => ?_⟩ (by simp only [zzK, seval]) ?_ (by omega)
      · by_cases e : j = i
        · subst e; exact c
        · exact i3 j h1 (by omega)
      · exact AHeap.sub_refl _
  · have e0 : i = 4 := by omega
    subst e0
    have e1 : pIs l wInt s = false := i3 1 (by omega) (by omega)
    have e2 : pIs l wFloat s = false := i3 2 (by omega) (by omega)
    have e3 : pIs l wBool s = false := i3 3 (by omega) (by omega)
    simp (maxSteps := 1000000) only [tb45p_e, zzK, seval]
    refine ⟨l, s, id, 110, rfl, by simp, ok.at_, ?_⟩
    unfold pTyp at hw
    rw [e1, e2, e3] at hw
    simp only [panD, leav_nil, finD]
    exact mid_pan (s' := s) (by simp) hw
def cTyp (args : List D) (h : AHeap) (K E : D → AHeap → Prop) : Prop := ∃ (l : List Tok) (s : PS) (id : Nat) , args = [.ptr id 1 0] ∧ LOk l ∧ cP (pTyp l) (fun t => D.int .i64 t) l s id h K E
theorem cTyp_mono (args : List D) (h : AHeap) (K E K' E' : D → AHeap → Prop) (hk : ∀ d h, K d h → K' d h) (he : ∀ d h, E d h → E' d h) (c : cTyp args h K E) : cTyp args h K' E' := by
  obtain ⟨l, s, id, a, b, c⟩ := c
  exact ⟨l, s, id, a, b, cP_mono hk he c⟩
theorem cTyp_ok (args : List D) (h : AHeap) (K E : D → AHeap → Prop) (c : cTyp args h K E) : ACalls Tryz.prog 62 args h (AOut.to K E) := by
  obtain ⟨l, s, id, rfl, hl, c⟩ := c
  exact cP_ok (fun ok K0 E0 hw => typ_c l hl s id  ok K0 E0 hw) c
def tb62p : Tab := tb45p.addE 62 cTyp cTyp_mono
theorem tb62p_q : tb62p.q = tb45p.q := rfl
theorem tb62p_a : tb62p.a = tb45p.a := rfl
theorem tb62p_c (g : FuncId) (args : List D) (h : AHeap) (K E : D → AHeap → Prop) : tb62p.c g args h K E = if g = 62 then cTyp args h K E else tb45p.c g args h K E := rfl
theorem tb62p_ok : tb62p.ok Tryz.prog := Tab.addE_ok tb45p_ok cTyp_ok
theorem tb62p_e : type_of% (And.intro (And.intro @tb62p_q (And.intro @tb62p_a @tb62p_c)) @tb45p_e) := (And.intro (And.intro @tb62p_q (And.intro @tb62p_a @tb62p_c)) @tb45p_e)
theorem node_c (l : List Tok) (hl : LOk l) (s : PS) (id : Nat) (n : Nd) (ok : PSok l s) (K0 : Nd → PS → Prop) (E0 : Int → Int → Prop) (hw : wpR (pNode l n s) (fun x s' => PSok l s' → K0 x s') E0) : ACalls Tryz.prog 32 [.ptr id 1 0, .agg n.enc] (AHeap.emp.set id (pObj l s)) (retP (fun n => .agg n.enc) l id K0 E0) := by
  refine ACalls.of_stmD tb62p_ok (dc := DTab.none) (fun _ _ => DTab.none_ok) (by kernel_rfl) st32p (by simp) ?_
  rw [vc_todo]
  have w1 : IntKind.i64.wrap (s.nods + 1) = s.nods + 1 := wrap_i64 (by have := ok.n0; omega) (by have := ok.n1; omega)
  unfold pNode at hw
  obtain ⟨nk, nt, ns, nm, nl⟩ := n
  rw [enc_mk]
  simp (maxSteps := 1000000) only [s32p, pObj, tb62p_e, zzK, seval]
  intro i3 n1 n2 i4 n3 n4 n5 n6
  by_cases c : s.nods + 1 > 2000
  · have g : (s.nods + 1 > 2000) = True := eq_true c
    rw [if_pos c] at hw
    simp (maxSteps := 1000000) only [g, w1, n1, n2, n3, n4, n5, n6, tb62p_e, zzK, seval]
    refine ⟨l, { s with nods := s.nods + 1 }, id, 3, rfl, by simp [n1, n2, n3, n4, n5, n6, pObj], ok.at_, ?_⟩
    simp only [panD, leav_nil, finD]
    exact mid_pan (s' := { s with nods := s.nods + 1 }) (by simp [n1, n2, n3, n4, n5, n6, pObj]) hw
  · have g : (s.nods + 1 > 2000) = False := eq_false c
    rw [if_neg c] at hw
    simp (maxSteps := 1000000) only [g, w1, n1, n2, n3, n4, n5, n6, retD_ret, leav_nil, finD, tb62p_e, zzK, seval]
    have ok' : PSok l { s with nods := s.nods + 1 } := by
      obtain ⟨h1, h2, h3, h4, h5, h6⟩ := ok
      exact ⟨h1, h2, by simp only; omega, by simp only; omega, h5, h6⟩
    exact mid_ret (x := .mk nk nt ns nm nl) (s' := { s with nods := s.nods + 1 }) (by rw [enc_mk]) (by simp [n1, n2, n3, n4, n5, n6, pObj]) (hw ok')
def cNode (args : List D) (h : AHeap) (K E : D → AHeap → Prop) : Prop := ∃ (l : List Tok) (s : PS) (id : Nat) (n : Nd), args = [.ptr id 1 0, .agg n.enc] ∧ LOk l ∧ cP (pNode l n) (fun n => .agg n.enc) l s id h K E
theorem cNode_mono (args : List D) (h : AHeap) (K E K' E' : D → AHeap → Prop) (hk : ∀ d h, K d h → K' d h) (he : ∀ d h, E d h → E' d h) (c : cNode args h K E) : cNode args h K' E' := by
  obtain ⟨l, s, id, n, a, b, c⟩ := c
  exact ⟨l, s, id, n, a, b, cP_mono hk he c⟩
theorem cNode_ok (args : List D) (h : AHeap) (K E : D → AHeap → Prop) (c : cNode args h K E) : ACalls Tryz.prog 32 args h (AOut.to K E) := by
  obtain ⟨l, s, id, n, rfl, hl, c⟩ := c
  exact cP_ok (fun ok K0 E0 hw => node_c l hl s id n ok K0 E0 hw) c
def encZ : Nd → List D
  | .mk k t s n _ => [.int .i64 k, .int .i64 t, .str s, .int .i64 n, .nilsl]
theorem nodeZ_c (l : List Tok) (hl : LOk l) (s : PS) (id : Nat) (n : Nd) (ok : PSok l s) (K0 : Nd → PS → Prop) (E0 : Int → Int → Prop) (hw : wpR (pNode l n s) (fun x s' => PSok l s' → K0 x s') E0) : ACalls Tryz.prog 32 [.ptr id 1 0, .agg (encZ n)] (AHeap.emp.set id (pObj l s)) (retP (fun n => .agg (encZ n)) l id K0 E0) := by
  refine ACalls.of_stmD tb62p_ok (dc := DTab.none) (fun _ _ => DTab.none_ok) (by kernel_rfl) st32p (by simp) ?_
  rw [vc_todo]
  have w1 : IntKind.i64.wrap (s.nods + 1) = s.nods + 1 := wrap_i64 (by have := ok.n0; omega) (by have := ok.n1; omega)
  unfold pNode at hw
  obtain ⟨nk, nt, ns, nm, nl⟩ := n
  rw [encZ]
  simp (maxSteps := 1000000) only [s32p, pObj, tb62p_e, zzK, seval]
  intro i3 n1 n2 i4 n3 n4 n5 n6
  by_cases c : s.nods + 1 > 2000
  · have g : (s.nods + 1 > 2000) = True := eq_true c
    rw [if_pos c] at hw
    simp (maxSteps := 1000000) only [g, w1, n1, n2, n3, n4, n5, n6, tb62p_e, zzK, seval]
    refine ⟨l, { s with nods := s.nods + 1 }, id, 3, rfl, by simp [n1, n2, n3, n4, n5, n6, pObj], ok.at_, ?_⟩
    simp only [panD, leav_nil, finD]
    exact mid_pan (s' := { s with nods := s.nods + 1 }) (by simp [n1, n2, n3, n4, n5, n6, pObj]) hw
  · have g : (s.nods + 1 > 2000) = False := eq_false c
    rw [if_neg c] at hw
    simp (maxSteps := 1000000) only [g, w1, n1, n2, n3, n4, n5, n6, retD_ret, leav_nil, finD, tb62p_e, zzK, seval]
    have ok' : PSok l { s with nods := s.nods + 1 } := by
      obtain ⟨h1, h2, h3, h4, h5, h6⟩ := ok
      exact ⟨h1, h2, by simp only; omega, by simp only; omega, h5, h6⟩
    exact mid_ret (x := .mk nk nt ns nm nl) (s' := { s with nods := s.nods + 1 }) rfl (by simp [n1, n2, n3, n4, n5, n6, pObj]) (hw ok')
def cNodeZ (args : List D) (h : AHeap) (K E : D → AHeap → Prop) : Prop := ∃ (l : List Tok) (s : PS) (id : Nat) (n : Nd), args = [.ptr id 1 0, .agg (encZ n)] ∧ LOk l ∧ cP (pNode l n) (fun n => .agg (encZ n)) l s id h K E
theorem cNodeZ_mono (args : List D) (h : AHeap) (K E K' E' : D → AHeap → Prop) (hk : ∀ d h, K d h → K' d h) (he : ∀ d h, E d h → E' d h) (c : cNodeZ args h K E) : cNodeZ args h K' E' := by
  obtain ⟨l, s, id, n, a, b, c⟩ := c
  exact ⟨l, s, id, n, a, b, cP_mono hk he c⟩
theorem cNodeZ_ok (args : List D) (h : AHeap) (K E : D → AHeap → Prop) (c : cNodeZ args h K E) : ACalls Tryz.prog 32 args h (AOut.to K E) := by
  obtain ⟨l, s, id, n, rfl, hl, c⟩ := c
  exact cP_ok (fun ok K0 E0 hw => nodeZ_c l hl s id n ok K0 E0 hw) c
def cNodeA (args : List D) (h : AHeap) (K E : D → AHeap → Prop) : Prop := cNode args h K E ∨ cNodeZ args h K E
theorem cNodeA_mono (args : List D) (h : AHeap) (K E K' E' : D → AHeap → Prop) (hk : ∀ d h, K d h → K' d h) (he : ∀ d h, E d h → E' d h) (c : cNodeA args h K E) : cNodeA args h K' E' := c.elim (fun c => .inl (cNode_mono _ _ _ _ _ _ hk he c)) fun c => .inr (cNodeZ_mono _ _ _ _ _ _ hk he c)
theorem cNodeA_ok (args : List D) (h : AHeap) (K E : D → AHeap → Prop) (c : cNodeA args h K E) : ACalls Tryz.prog 32 args h (AOut.to K E) := c.elim (cNode_ok _ _ _ _) (cNodeZ_ok _ _ _ _)
def tb32p : Tab := tb62p.addE 32 cNodeA cNodeA_mono
theorem tb32p_q : tb32p.q = tb62p.q := rfl
theorem tb32p_a : tb32p.a = tb62p.a := rfl
theorem tb32p_c (g : FuncId) (args : List D) (h : AHeap) (K E : D → AHeap → Prop) : tb32p.c g args h K E = if g = 32 then cNodeA args h K E else tb62p.c g args h K E := rfl
theorem tb32p_ok : tb32p.ok Tryz.prog := Tab.addE_ok tb62p_ok cNodeA_ok
theorem tb32p_e : type_of% (And.intro (And.intro @tb32p_q (And.intro @tb32p_a @tb32p_c)) @tb62p_e) := (And.intro (And.intro @tb32p_q (And.intro @tb32p_a @tb32p_c)) @tb62p_e)
def tb86p : Tab := tb32p.addS 86 s86p [.tmp 2] 18
theorem tb86p_q : tb86p.q = tb32p.q := rfl
theorem tb86p_a : tb86p.a = tb32p.a := rfl
theorem tb86p_c (g : FuncId) (args : List D) (h : AHeap) (K E : D → AHeap → Prop) : tb86p.c g args h K E = if g = 86 then (args.length ≤ 18 ∧ vc tb32p s86p (todo tb32p (retS [.tmp 2] K) (panS E) []) (panS E) (argFr args) h) else tb32p.c g args h K E := rfl
theorem tb86p_ok : tb86p.ok Tryz.prog := Tab.addS_ok tb32p_ok st86p
theorem tb86p_e : type_of% (And.intro (And.intro @tb86p_q (And.intro @tb86p_a @tb86p_c)) @tb32p_e) := (And.intro (And.intro @tb86p_q (And.intro @tb86p_a @tb86p_c)) @tb32p_e)
def dIn : DTab := fun k args u h F => k = 103 ∧ ∃ (b id : Nat) (l : List Tok) (s : PS), args = [.ptr b 1 0] ∧ h.f b = some (.cells [.ptr id 1 0]) ∧ h.f id = some (pObj l s) ∧ F u (h.set id (pObj l { s with deep := IntKind.i64.wrap (s.deep - 1) }))
theorem dIn_ok (κ : Kap) (w : World) : dIn.okY Tryz.prog κ w := by
  rintro k args u h F ⟨rfl, b, id, l, s, rfl, hb, hid, hF⟩ κ' w' le
  refine DCallsAt.of_stm ((Tab.zero_ok Tryz.prog).toY κ' w') st103p (by simp) ?_
  have hid' : h.f id = some (.cells [.sl (encT l), .int .i64 s.pos, .int .i64 s.nods, .int .i64 s.deep]) := hid
  simp (maxSteps := 1000000) only [s103p, hb, hid', retO_normal, zzK, seval]
  exact ⟨_, AHeap.sub_refl _, hF⟩
end
end Go.Proofs.YtpagdhbmbnoddaaGreatDoor.Zz
namespace Go.Proofs.YtpagdhbmbnoddaaGreatDoor.Zz
noncomputable section
def p77c : Plan := ⟨⟨[(3, 0)], [], [], [], [], []⟩, [], [], false⟩
def s77c : Stm :=
 .seq (.ops [⟨.mov (.c .nilsl), some 2, none, true⟩])
 (.seq (.seq (.ops [⟨.mov (.t 0), some 3, none, true⟩,
 ⟨.isNil false (.t 3), some 4, none, false⟩])
 (.cond (.t 4)
 (.seq (.ops [⟨.mov (.c .nilsl), some 2, none, true⟩])
 (.ret))
 (.skip)))
 (.seq (.ops [⟨.buildSlice 5 [(.int .i64 0), (.int .i64 0), (.str []), (.int .i64 0), .nilsl] 0 [] true, some 5, none, false⟩,
 ⟨.mov (.t 0), some 6, none, true⟩,
 ⟨.append 5 64 false (.t 5) (.t 6), some 7, none, false⟩,
 ⟨.mov (.t 7), some 2, none, true⟩])
 (.ret)))
theorem st77c : stmOf Tryz.prog 77 p77c = some (s77c, [.tmp 2], 8) := by kernel_rfl
theorem copyS_c (xs : List (List D)) (hx : ∀ y ∈ xs, y.length = 5 ∧ y.all cellOk = true) (hl : xs.length * 64 ≤ 140737488355328) (h : AHeap) : ACalls Tryz.prog 77 [.sl xs] h fun o h' => ∃ d, o = .ret d ∧ ((xs = [] ∧ d = .nilsl ∧ h' = h) ∨ ∃ id, h.f id = none ∧ d = .row id (xs.length + 2) 0 xs.length ∧ h' = h.set id (.row 5 (xs.length + 2) xs false)) := by
  refine ACalls.run (Tab.zero_ok _) st77c (by simp) fun E => ?_
  simp (maxSteps := 1000000) only [s77c, i_isNil_sl, zzK, seval]
  refine ⟨fun h0 => ?_, ?_⟩
  · simp (maxSteps := 1000000) only [h0, zzK, seval]
  · intro id hid
    refine ⟨hx, hl, .inr ⟨id, hid, ?_, ?_⟩⟩ <;> rw [Nat.add_comm]
def cCp (args : List D) (h : AHeap) (K : D → AHeap → Prop) : Prop :=
  ∃ l : List Nd, args = [.sl (Nd.encs l)] ∧ l.length ≤ 1000000000 ∧ (l = [] → K .nilsl h) ∧ ∀ id, h.f id = none → K (.row id (l.length + 2) 0 l.length) (h.set id (.row 5 (l.length + 2) (Nd.encs l) false))
theorem cCp_mono (args : List D) (h : AHeap) (K K' : D → AHeap → Prop) (hk : ∀ d h, K d h → K' d h) (c : cCp args h K) : cCp args h K' := by
  obtain ⟨l, a, b, c, d⟩ := c
  exact ⟨l, a, b, fun e => hk _ _ (c e), fun id e => hk _ _ (d id e)⟩
theorem cCp_ok (args : List D) (h : AHeap) (K : D → AHeap → Prop) (c : cCp args h K) : ACalls Tryz.prog 77 args h fun o h' => ∃ d, o = .ret d ∧ K d h' := by
  obtain ⟨l, rfl, b, c, d⟩ := c
  refine (copyS_c (Nd.encs l) (fun y hy => ?_) (by rw [len_encs]; omega) h).mono fun o h' ⟨d', hE1, hE2⟩ => ⟨d', hE1, ?_⟩
  · rw [encs_map] at hy
    obtain ⟨x, _, hx⟩ := List.mem_map.1 hy
    subst hx
    exact ⟨len_enc x, enc_ok x⟩
  · rcases hE2 with ⟨e1, e2, e3⟩ | ⟨id, e1, e2, e3⟩
    · rw [e2, e3]
      refine c ?_
      cases l with
      | nil => rfl
      | cons x l => rw [encs_cons] at e1; cases e1
    · rw [e2, e3, len_encs]
      exact d id e1
def tb77c : Tab := tb78c.addW 77 cCp cCp_mono
theorem tb77c_q : tb77c.q = tb78c.q := rfl
theorem tb77c_a : tb77c.a = tb78c.a := rfl
theorem tb77c_c (g : FuncId) (args : List D) (h : AHeap) (K E : D → AHeap → Prop) : tb77c.c g args h K E = if g = 77 then cCp args h K else tb78c.c g args h K E := rfl
theorem tb77c_ok : tb77c.ok Tryz.prog := Tab.addW_ok tb78c_ok cCp_ok
theorem tb77c_e : type_of% (And.intro (And.intro @tb77c_q (And.intro @tb77c_a @tb77c_c)) @tb78c_e) := (And.intro (And.intro @tb77c_q (And.intro @tb77c_a @tb77c_c)) @tb78c_e)
def q45c : List D → Option D
  | [.int .i64 t] => some (.str (typeN t))
  | _ => none
theorem q45c_ok (args : List D) (d : D) (h : q45c args = some d) : PCall Tryz.prog 45 args d := by
  unfold q45c at h
  split at h
  · cases h; exact typeName_c _
  · cases h
def tb45c : Tab := tb77c.addQ 45 q45c
theorem tb45c_q (g : FuncId) (args : List D) : tb45c.q g args = if g = 45 then q45c args else tb77c.q g args := rfl
theorem tb45c_a : tb45c.a = tb77c.a := rfl
theorem tb45c_c : tb45c.c = tb77c.c := rfl
theorem tb45c_ok : tb45c.ok Tryz.prog := Tab.addQ_ok tb77c_ok q45c_ok
theorem tb45c_e : type_of% (And.intro (And.intro @tb45c_q (And.intro @tb45c_a @tb45c_c)) @tb77c_e) := (And.intro (And.intro @tb45c_q (And.intro @tb45c_a @tb45c_c)) @tb77c_e)
theorem tyN (t : Int) : (typeN t == []) = !tyOk t := by
  unfold typeN tyOk
  cases (t == 1) <;> cases (t == 2) <;> cases (t == 3) <;> rfl
theorem app_rowN {sz b r n : Nat} {xs : List (List D)} {y : List D} {h : AHeap} {K : D → AHeap → Prop} (hxn : xs.length = n) (hr : h.f r = some (.row sz (n + 2) xs false)) (hy : y.length = sz ∧ y.all cellOk = true) (hb : 0 < b) (hn : (n + 1) * b ≤ 140737488355328)
    (hk : K (.row r (n + 1 + 2) 0 (n + 1)) (h.set r (.row sz (n + 1 + 2) (xs ++ [y]) false))) : appK sz b (.row r (n + 2) 0 n) h K (some [y]) := by
  subst hxn
  rw [app_row, hr, appR_row]
  refine ⟨by simpa using hy, hb, rfl, rfl, rfl, rfl, by simpa using hn, ?_⟩
  have e : xs.length + 2 + [y].length = xs.length + 1 + 2 := by simp
  rw [e]
  exact hk
end
end Go.Proofs.YtpagdhbmbnoddaaGreatDoor.Zz
