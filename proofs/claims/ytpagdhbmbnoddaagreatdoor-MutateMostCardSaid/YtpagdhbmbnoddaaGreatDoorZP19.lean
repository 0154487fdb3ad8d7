/- Contracts: the list of all mutants. -/
import Derived.Test.YtpagdhbmbnoddaaGreatDoorZM2
import Derived.Test.YtpagdhbmbnoddaaGreatDoorZP6
import Derived.Test.YtpagdhbmbnoddaaGreatDoorZA0
import Derived.KernelRfl
set_option linter.unnecessarySimpa false
namespace Go.Proofs.YtpagdhbmbnoddaaGreatDoor.Zz
noncomputable section
set_option linter.unusedVariables false
set_option linter.unusedSimpArgs false
set_option maxRecDepth 20000
def p9m : Plan := ⟨⟨[], [(1, 1), (1, 2)], [], [], [], []⟩, [], [], false⟩
/-- cupel/mutate.List (1 parameters, 0 captured) -/
def s9m : Stm :=
 .seq (.ops [⟨.box (.t 0), (some 1), none, false⟩,
 ⟨.mov (.c .nilsl), (some 2), none, true⟩])
 (.seq (.ops [⟨.load (some 5) (.t 1), (some 3), none, false⟩,
 ⟨.call (.f 21) [(.t 3)], (some 4), none, false⟩,
 ⟨.call (.f 20) [(.t 4)], (some 5), none, false⟩,
 ⟨.mov (.t 5), (some 2), none, true⟩])
 (.ret))
theorem st9m : stmOf Tryz.prog 9 p9m = some (s9m, [.tmp 2], 6) := by kernel_rfl

def p20m : Plan := ⟨⟨[(1, 1)], [(1, 1)], [], [], [], []⟩, [], [], false⟩
/-- slices.Collect[cupel/api.Mutant] (1 parameters, 0 captured) -/
def s20m : Stm :=
 .seq (.ops [⟨.mov (.c .nilsl), (some 2), none, true⟩])
 (.seq (.ops [⟨.mov (.t 0), (some 3), none, true⟩,
 ⟨.callR (.f 40) [(.c .nilsl), (.t 3)], (some 4), none, false⟩,
 ⟨.mov (.t 4), (some 2), none, true⟩])
 (.ret))
theorem st20m : stmOf Tryz.prog 20 p20m = some (s20m, [.tmp 2], 5) := by kernel_rfl

def p21m : Plan := ⟨⟨[], [], [], [], [], []⟩, [], [], false⟩
/-- cupel/mutate.All (1 parameters, 0 captured) -/
def s21m : Stm :=
 .seq (.ops [⟨.box (.t 0), (some 1), none, false⟩,
 ⟨.mov (.c .nilfunc), (some 2), none, true⟩])
 (.seq (.ops [⟨.mkFunc (.func 41) [] [(.t 1)], (some 3), none, true⟩,
 ⟨.mov (.t 3), (some 2), none, true⟩])
 (.ret))
theorem st21m : stmOf Tryz.prog 21 p21m = some (s21m, [.tmp 2], 4) := by kernel_rfl

def p40m : Plan := ⟨⟨[], [], [], [], [], []⟩, [], [], false⟩
/-- slices.AppendSeq[[]cupel/api.Mutant,cupel/api.Mutant] (2 parameters, 0 captured) -/
def s40m : Stm :=
 .seq (.ops [⟨.box (.t 0), (some 2), none, false⟩,
 ⟨.mov (.c .nilsl), (some 4), none, true⟩])
 (.seq (.seq (.ops [⟨.mov (.t 1), (some 6), none, true⟩])
 (.block 0 (.rangeF (.t 6) [7]
 (.ops [⟨.alloc [(.str []), (.int .i64 0), (.int .i64 0)], (some 5), none, false⟩,
 ⟨.store 3 (.t 5) (.t 7), none, none, false⟩])
 (.block 1 (.ops [⟨.load none (.t 2), (some 8), none, false⟩,
 ⟨.load (some 3) (.t 5), (some 9), none, false⟩,
 ⟨.buildSlice 3 [(.str []), (.int .i64 0), (.int .i64 0)] 1 [(0, (.t 9))] false, (some 10), none, true⟩,
 ⟨.append 3 32 false (.t 8) (.t 10), (some 11), none, false⟩,
 ⟨.store 1 (.t 2) (.t 11), none, none, false⟩])))))
 (.seq (.ops [⟨.load none (.t 2), (some 12), none, false⟩,
 ⟨.mov (.t 12), (some 4), none, true⟩])
 (.ret)))
theorem st40m : stmOf Tryz.prog 40 p40m = some (s40m, [.tmp 4], 13) := by kernel_rfl

def encMs (l : List Mut) : List (List D) := l.map encMu
theorem len_encMs {l : List Mut} : (encMs l).length = l.length := by simp [encMs]
theorem encMs_app {l : List Mut} {m : Mut} : encMs l ++ [[.str m.1, .int .i64 m.2.1, .int .i64 m.2.2]] = encMs (l ++ [m]) := by simp [encMs, encMu]
theorem encMs_ne {l : List Mut} (h : l ≠ []) : encMs l ≠ [] := by cases l <;> simp_all [encMs]
theorem YM_ind {Y : List D → AHeap → (D → AHeap → Prop) → Prop} (hY : YMono Y) {K : AHeap → Prop} (I : List Mut → AHeap → Prop) (L : List Mut)
    (step : ∀ (dn : List Mut) (m : Mut) (hh : AHeap), dn.length < L.length → I dn hh → Y [.agg (encMu m)] hh (fun d h' => d = .bool true ∧ I (dn ++ [m]) h')) (fin : ∀ hh, I L hh → K hh) : ∀ (l dn : List Mut) (h : AHeap), dn ++ l = L → I dn h → YM Y l h K
  | [], dn, h, e, hI => by rw [List.append_nil] at e; subst e; exact fin h hI
  | m :: l, dn, h, e, hI => by
    rw [YM_cons]
    refine hY _ _ _ _ (fun d h' kk => ?_) (step dn m h (by rw [← e]; simp) hI)
    exact ⟨true, kk.1, fun _ => YM_ind hY I L step fin l (dn ++ [m]) h' (by rw [← e]; simp) kk.2, fun x => by cases x⟩
def tbMu : Tab := Tab.zero.addR 41 rMut rMut_mono
theorem tbMu_ok : tbMu.ok Tryz.prog := Tab.addR_ok (Tab.zero_ok _) fun l Y args h K κ w hY hs x => rMut_ok l Y args h K κ w hY hs x
theorem tbMu_q : tbMu.q = Tab.zero.q := rfl
theorem tbMu_a : tbMu.a = Tab.zero.a := rfl
theorem tbMu_c : tbMu.c = Tab.zero.c := rfl
theorem tbMu_r (g : FuncId) (l : Nat) (Y : List D → AHeap → (D → AHeap → Prop) → Prop) (xs : List D) (h : AHeap) (K : D → AHeap → Prop) : tbMu.r g l Y xs h K = if g = 41 then rMut l Y xs h K else Tab.zero.r g l Y xs h K := rfl
theorem listM_len (p : Nd) : (listM p).length ≤ 400 := by unfold listM; rw [List.length_take]; omega
/-- What the list asks. -/
def cSeq (args : List D) (h : AHeap) (K : D → AHeap → Prop) : Prop := ∃ (p : Nd) (id : Nat), args = [.nilsl, .func (.func 41) [] [.ptr id 1 0]] ∧ h.f id = some (.cells p.enc) ∧ p.cnt ≤ 100000000 ∧ (listM p = [] → K .nilsl h) ∧
  (listM p ≠ [] → ∀ r, h.f r = none → K (.row r ((listM p).length + 2) 0 (listM p).length) (h.set r (.row 3 ((listM p).length + 2) (encMs (listM p)) false)))
theorem cSeq_mono (args : List D) (h : AHeap) (K K' : D → AHeap → Prop) (hk : ∀ d h, K d h → K' d h) (c : cSeq args h K) : cSeq args h K' := by
  obtain ⟨p, id, a, b, c, d, e⟩ := c
  exact ⟨p, id, a, b, c, fun x => hk _ _ (d x), fun x r hr => hk _ _ (e x r hr)⟩
set_option maxHeartbeats 1000000 in
theorem cSeq_ok (args : List D) (h : AHeap) (K : D → AHeap → Prop) (c : cSeq args h K) : ACalls Tryz.prog 40 args h fun o h' => ∃ d, o = .ret d ∧ K d h' := by
  obtain ⟨p, id, rfl, hid, hn, k1, k2⟩ := c
  refine ACalls.of_stmD tbMu_ok (dc := DTab.none) (fun _ _ => DTab.none_ok) (by kernel_rfl) st40m (by simp) ?_
  rw [vc_todo]
  have hr_ := tbMu_r
  simp (config := {maxSteps := 1000000}) only [s40m, tbMu_q, tbMu_a, tbMu_c, zzK, seval]
  intro i2 f2
  have ni2 : ¬ id = i2 := fun e => by subst e; rw [hid] at f2; cases f2
  refine run_rangeF (f := 41) (first := []) (cap := [.ptr id 1 0]) (by simp only [zzK, seval]) fun l r rd hr hrd hne => ?_
  have hne' : ¬ rd = r := fun e => hne e.symm
  have r2 : ¬ r = i2 := fun e => by subst e; simp at hr
  have d2 : ¬ rd = i2 := fun e => by subst e; simp at hrd
  have s2m : ¬ i2 = r := fun e => r2 e.symm
  have t2 : ¬ i2 = rd := fun e => d2 e.symm
  have hr' : h.f r = none := by simpa [r2] using hr
  have hrd' : h.f rd = none := by simpa [d2] using hrd
  have nr : ¬ id = r := fun e => by subst e; rw [hid] at hr'; cases hr'
  have nd : ¬ id = rd := fun e => by subst e; rw [hid] at hrd'; cases hrd'
  clear hr hrd
  rw [tbMu_r, if_pos rfl]
  refine ⟨p, id, rfl, by simp [nr, nd, ni2, hid], hn, ?_⟩
  refine YM_ind (roundY_mono _ _ _ _ _) (fun dn hh => ∃ q : Nat, hh.f i2 = some (.cells [ownD q dn.length]) ∧ (dn ≠ [] → hh.f q = some (.row 3 (dn.length + 2) (encMs dn) false) ∧ h.f q = none ∧ ¬ q = i2 ∧ ¬ q = r ∧ ¬ q = rd) ∧ hh.f r = some (.lp (.done .normal)) ∧ hh.f rd = some .dfr ∧ h.sub hh) (listM p) ?_ ?_ _ [] _ rfl
    ⟨0, by simp [s2m, t2, ownD], fun e => absurd rfl e, by simp, by simp [hne'], ?_⟩
  · rintro dn m hh hlt ⟨q, v1, v2, v3, v4, v5⟩
    have hl4 := listM_len p
    rw [round1]
    refine ⟨v3, ?_⟩
    obtain ⟨m1, m2, m3⟩ := m
    have hno : ∀ j, hh.f j = none → h.f j = none := fun j hj => by
      cases e : h.f j with
      | none => rfl
      | some o => rw [v5 j o e] at hj; cases hj
    by_cases hd : dn = []
    · subst hd
      rw [List.length_nil, ownD_zero] at v1
      simp (config := {maxSteps := 1000000}) only [encMu, asgK_normal, tbMu_q, tbMu_a, tbMu_c, v1, v3, v4, zzK, seval]
      intro i5 f5
      have m2' : ¬ i5 = i2 := fun e => by subst e; rw [v1] at f5; cases f5
      have m2'' : ¬ i2 = i5 := fun e => m2' e.symm
      have mr : ¬ i5 = r := fun e => by subst e; rw [v3] at f5; cases f5
      have mr' : ¬ r = i5 := fun e => mr e.symm
      have md : ¬ i5 = rd := fun e => by subst e; rw [v4] at f5; cases f5
      have md' : ¬ rd = i5 := fun e => md e.symm
      simp (config := {maxSteps := 1000000}) only [v1, v3, v4, m2', m2'', mr, mr', md, md', r2, s2m, d2, t2, hne, hne', bodyK_eq, Ex.code, Option.isNone_none, true_and, tbMu_q, tbMu_a, tbMu_c, zzK, seval]
      intro q qr qr' q5m q5m' fq
      have q2m : ¬ q = i2 := fun e => by subst e; rw [v1] at fq; cases fq
      have q2m' : ¬ i2 = q := fun e => q2m e.symm
      have qd : ¬ q = rd := fun e => by subst e; rw [v4] at fq; cases fq
      have qd' : ¬ rd = q := fun e => qd e.symm
      simp (config := {maxSteps := 1000000}) only [qr, qr', q5m, q5m', q2m, q2m', qd, qd', v1, v3, v4, m2', m2'', mr, mr', md, md', r2, s2m, d2, t2, hne, hne', bodyK_eq, Ex.code, Option.isNone_none, true_and, tbMu_q, tbMu_a, tbMu_c, zzK, seval]
      refine ⟨q, rfl, ⟨by simp [qr, q2m, encMs, encMu], hno _ fq, q2m, qr, qd⟩, ?_⟩
      · refine fun q' o ho => ?_
        have e1 : ¬ q' = r := fun e => by subst e; rw [hr'] at ho; cases ho
        have e2 : ¬ q' = i2 := fun e => by subst e; rw [f2] at ho; cases ho
        have e3 : ¬ q' = i5 := fun e => by subst e; rw [hno _ f5] at ho; cases ho
        have e4 : ¬ q' = q := fun e => by subst e; rw [hno _ fq] at ho; cases ho
        simp [e1, e2, e3, e4, v5 q' o ho]
    · obtain ⟨w1, w2, w3, w4, w5⟩ := v2 hd
      have hl0 : dn.length ≠ 0 := fun e => hd (List.length_eq_zero_iff.1 e)
      rw [ownD_pos hl0] at v1
      simp (config := {maxSteps := 1000000}) only [encMu, asgK_normal, tbMu_q, tbMu_a, tbMu_c, v1, v3, v4, zzK, seval]
      intro i5 f5
      have m2' : ¬ i5 = i2 := fun e => by subst e; rw [v1] at f5; cases f5
      have m2'' : ¬ i2 = i5 := fun e => m2' e.symm
      have mr : ¬ i5 = r := fun e => by subst e; rw [v3] at f5; cases f5
      have mr' : ¬ r = i5 := fun e => mr e.symm
      have md : ¬ i5 = rd := fun e => by subst e; rw [v4] at f5; cases f5
      have md' : ¬ rd = i5 := fun e => md e.symm
      have mq : ¬ i5 = q := fun e => by subst e; rw [w1] at f5; cases f5
      have mq' : ¬ q = i5 := fun e => mq e.symm
      simp (config := {maxSteps := 1000000}) only [v1, v3, v4, w1, w3, w4, w5, mq, mq', m2', m2'', mr, mr', md, md', r2, s2m, d2, t2, hne, hne', len_encMs, bodyK_eq, Ex.code, Option.isNone_none, true_and, tbMu_q, tbMu_a, tbMu_c, zzK, seval]
      refine ⟨by omega, ?_⟩
      have w3' : ¬ i2 = q := fun e => w3 e.symm
      have w4' : ¬ r = q := fun e => w4 e.symm
      have w5' : ¬ rd = q := fun e => w5 e.symm
      simp (config := {maxSteps := 1000000}) only [v1, v3, v4, w1, w3, w4, w5, w3', w4', w5', mq, mq', m2', m2'', mr, mr', md, md', r2, s2m, d2, t2, hne, hne', len_encMs, bodyK_eq, Ex.code, Option.isNone_none, true_and, tbMu_q, tbMu_a, tbMu_c, zzK, seval]
      have hl : (dn ++ [((m1, m2, m3) : Mut)]).length = dn.length + 1 := by simp
      refine ⟨q, by rw [hl, ownD_pos (Nat.succ_ne_zero _), show dn.length + 1 + 2 = dn.length + 2 + 1 by omega], fun _ => ⟨?_, w2, w3, w4, w5⟩, ?_⟩
      · rw [hl, ← encMs_app]
        simp [w3, w4]
      · refine fun q' o ho => ?_
        have e1 : ¬ q' = r := fun e => by subst e; rw [hr'] at ho; cases ho
        have e2 : ¬ q' = i2 := fun e => by subst e; rw [f2] at ho; cases ho
        have e3 : ¬ q' = i5 := fun e => by subst e; rw [hno _ f5] at ho; cases ho
        have e4 : ¬ q' = q := fun e => by subst e; rw [w2] at ho; cases ho
        simp [e1, e2, e3, e4, v5 q' o ho]
  · rintro hh ⟨q, v1, v2, v3, v4, v5⟩
    refine rangeK_done v3 ?_
    by_cases hd : listM p = []
    · rw [hd, List.length_nil, ownD_zero] at v1
      simp (config := {maxSteps := 1000000}) only [v1, v3, v4, r2, s2m, d2, t2, hne, hne', AHeap.del_f, retD_ret, leav_mark, leav_nil, finD, tbMu_q, tbMu_a, tbMu_c, zzK, seval]
      refine .inl ⟨h, fun q' o ho => ?_, k1 hd⟩
      have e1 : ¬ q' = r := fun e => by subst e; rw [hr'] at ho; cases ho
      have e2 : ¬ q' = rd := fun e => by subst e; rw [hrd'] at ho; cases ho
      simp [e1, e2, v5 q' o ho]
    · obtain ⟨w1, w2, w3, w4, w5⟩ := v2 hd
      have hl0 : (listM p).length ≠ 0 := fun e => hd (List.length_eq_zero_iff.1 e)
      rw [ownD_pos hl0] at v1
      simp (config := {maxSteps := 1000000}) only [v1, v3, v4, r2, s2m, d2, t2, hne, hne', AHeap.del_f, retD_ret, leav_mark, leav_nil, finD, tbMu_q, tbMu_a, tbMu_c, zzK, seval]
      refine .inl ⟨_, fun q' o ho => ?_, k2 hd q w2⟩
      simp only [AHeap.set_f] at ho
      by_cases e0 : q' = q
      · subst e0
        simp only [if_true] at ho
        cases ho
        simp [w4, w5, w1]
      · simp only [e0, if_false] at ho
        have e1 : ¬ q' = r := fun e => by subst e; rw [hr'] at ho; cases ho
        have e2 : ¬ q' = rd := fun e => by subst e; rw [hrd'] at ho; cases ho
        simp [e1, e2, v5 q' o ho]
  · exact AHeap.sub_X (AHeap.subX_r (.inr hr') (AHeap.subX_r (.inr hrd') (AHeap.subX_r (.inr f2) AHeap.subX_refl)))
def tn40 : Tab := Tab.zero.addW 40 cSeq cSeq_mono
theorem tn40_q : tn40.q = Tab.zero.q := rfl
theorem tn40_a : tn40.a = Tab.zero.a := rfl
theorem tn40_c (g : FuncId) (args : List D) (h : AHeap) (K E : D → AHeap → Prop) : tn40.c g args h K E = if g = 40 then cSeq args h K else Tab.zero.c g args h K E := rfl
theorem tn40_ok : tn40.ok Tryz.prog := Tab.addW_ok (Tab.zero_ok _) cSeq_ok
theorem tn40_e : type_of% (And.intro @tn40_q (And.intro @tn40_a @tn40_c)) := (And.intro @tn40_q (And.intro @tn40_a @tn40_c))

def tn20 : Tab := tn40.addS 20 s20m [.tmp 2] 5
theorem tn20_q : tn20.q = tn40.q := rfl
theorem tn20_a : tn20.a = tn40.a := rfl
theorem tn20_c (g : FuncId) (args : List D) (h : AHeap) (K E : D → AHeap → Prop) : tn20.c g args h K E = if g = 20 then (args.length ≤ 5 ∧ vc tn40 s20m (todo tn40 (retS [.tmp 2] K) (panS E) []) (panS E) (argFr args) h) else tn40.c g args h K E := rfl
theorem tn20_ok : tn20.ok Tryz.prog := Tab.addS_ok tn40_ok st20m
theorem tn20_e : type_of% (And.intro (And.intro @tn20_q (And.intro @tn20_a @tn20_c)) @tn40_e) := (And.intro (And.intro @tn20_q (And.intro @tn20_a @tn20_c)) @tn40_e)

def tn21 : Tab := tn20.addS 21 s21m [.tmp 2] 4
theorem tn21_q : tn21.q = tn20.q := rfl
theorem tn21_a : tn21.a = tn20.a := rfl
theorem tn21_c (g : FuncId) (args : List D) (h : AHeap) (K E : D → AHeap → Prop) : tn21.c g args h K E = if g = 21 then (args.length ≤ 4 ∧ vc tn20 s21m (todo tn20 (retS [.tmp 2] K) (panS E) []) (panS E) (argFr args) h) else tn20.c g args h K E := rfl
theorem tn21_ok : tn21.ok Tryz.prog := Tab.addS_ok tn20_ok st21m
theorem tn21_e : type_of% (And.intro (And.intro @tn21_q (And.intro @tn21_a @tn21_c)) @tn20_e) := (And.intro (And.intro @tn21_q (And.intro @tn21_a @tn21_c)) @tn20_e)

set_option maxHeartbeats 1000000 in
theorem listM_c (p : Nd) (hn : p.cnt ≤ 100000000) : PCall Tryz.prog 9 [.agg p.enc] (.sl (encMs (listM p))) := by
  refine PCall.run tn21_ok st9m (by simp) fun E => ?_
  have hp5 := len_enc p
  have hp := part_enc p
  have hpo := enc_ok p
  obtain ⟨k, t, s, m, l⟩ := p
  rw [enc_mk] at *
  simp (config := {maxSteps := 1000000}) only [s9m, s20m, s21m, i_callR, retS_ret, tn21_e, zzK, seval]
  intro i1  i2 a2_1 b2_1
  have hl4 := listM_len (.mk k t s m l)
  refine ⟨.mk k t s m l, i2, rfl, by simp [enc_mk], hn, fun e => ?_, fun e r hr => ?_⟩
  · rw [e]
    simp (config := {maxSteps := 1000000}) only [encMs, List.map_nil, retS_ret, tn21_e, zzK, seval]
  · have e1 : ¬ r = i2 := fun e => by subst e; simp at hr
    have e2 : ¬ r = i1 := fun e => by subst e; simp [a2_1, b2_1] at hr
    have tk : (encMs (listM (.mk k t s m l))).take (listM (.mk k t s m l)).length = encMs (listM (.mk k t s m l)) := List.take_of_length_le (by rw [len_encMs]; omega)
    simp (config := {maxSteps := 1000000}) only [retS_ret, e1, e2, tk, len_encMs, tn21_e, zzK, seval]
def q9m : List D → Option D
  | [.agg ds] => match decN ds with
    | some n => if n.cnt ≤ 100000000 then some (.sl (encMs (listM n))) else none
    | none => none
  | _ => none
theorem q9m_ok (args : List D) (d : D) (h : q9m args = some d) : PCall Tryz.prog 9 args d := by
  unfold q9m at h
  split at h
  · split at h
    · rename_i n hn
      split at h
      · rename_i c
        cases h
        rw [decN_some hn]
        exact listM_c n c
      · cases h
    · cases h
  · cases h
theorem q9m_eq (n : Nd) (h : n.cnt ≤ 100000000) : q9m [.agg n.enc] = some (.sl (encMs (listM n))) := by
  simp only [q9m, decN_enc]; rw [if_pos h]
end
end Go.Proofs.YtpagdhbmbnoddaaGreatDoor.Zz
/- Parsing, told of the words alone that are ahead: where it goes well, the parser does the same. -/
namespace Go.Proofs.YtpagdhbmbnoddaaGreatDoor.Zz
set_option linter.unusedVariables false
set_option linter.unusedSimpArgs false
noncomputable section
abbrev Wd := Int × List UInt8
/-- A part that went well: what it answers, the words ahead, how many nodes there are. -/
abbrev SR (α : Type) := Option (α × List Wd × Int)
section
variable {α β : Type}
def stripT (l : List Tok) : List Wd := l.map fun t => (t.1, t.2.1)
/-- The words ahead. -/
def vw (l : List Tok) (s : PS) : List Wd := stripT (l.drop s.pos.toNat)
theorem vw_len (l : List Tok) (s : PS) : (vw l s).length ≤ l.length := by simp [vw, stripT]
theorem vw_nil {l : List Tok} {s : PS} (h : vw l s = []) : pNow l s = (0, [], 0) := by
  simp only [vw, stripT, List.map_eq_nil_iff, List.drop_eq_nil_iff] at h
  simp [pNow, h]
theorem vw_cons {l : List Tok} {s : PS} {k : Int} {w : List UInt8} {r : List Wd} (hp : 0 ≤ s.pos) (h : vw l s = (k, w) :: r) : (pNow l s).1 = k ∧ (pNow l s).2.1 = w ∧ vw l (pStep s) = r := by
  simp only [vw, stripT] at h
  cases e : l.drop s.pos.toNat with
  | nil => rw [e] at h; cases h
  | cons t q =>
    rw [e] at h
    simp only [List.map_cons, List.cons.injEq, Prod.mk.injEq] at h
    have e1 : l.getD s.pos.toNat (0, [], 0) = t := by
      have := congrArg (fun l : List Tok => l[0]?) e
      simp only [List.getElem?_drop, Nat.add_zero, List.getElem?_cons_zero] at this
      rw [List.getD_eq_getElem?_getD, this]; rfl
    have e2 : l.drop (s.pos.toNat + 1) = q := by
      rw [← List.drop_drop, e]; rfl
    refine ⟨by rw [pNow, e1]; exact h.1.1, by rw [pNow, e1]; exact h.1.2, ?_⟩
    have e3 : (s.pos + 1).toNat = s.pos.toNat + 1 := by omega
    simp only [vw, pStep, e3, e2, stripT]
    exact h.2
/-- The parser does what the words say. -/
def Rel (l : List Tok) (r : PR α) (q : SR α) (d : Int) : Prop := ∀ x ws m, q = some (x, ws, m) → ∃ s' : PS, r = .ok x s' ∧ vw l s' = ws ∧ s'.nods = m ∧ s'.deep = d ∧ 0 ≤ s'.pos
theorem Rel.none {l : List Tok} {r : PR α} {d : Int} : Rel l r none d := fun _ _ _ e => by cases e
theorem Rel.ok {l : List Tok} {x : α} {s : PS} {d : Int} (h1 : s.deep = d) (h2 : 0 ≤ s.pos) : Rel l (.ok x s) (some (x, vw l s, s.nods)) d := fun y ws m e => by
  cases e; exact ⟨s, rfl, rfl, rfl, h1, h2⟩
theorem Rel.ok' {l : List Tok} {x : α} {s : PS} {d : Int} {ws : List Wd} (h1 : s.deep = d) (h2 : 0 ≤ s.pos) (h3 : vw l s = ws) : Rel l (.ok x s) (some (x, ws, s.nods)) d := fun y ws m e => by
  cases e; exact ⟨s, rfl, h3, rfl, h1, h2⟩
theorem Rel.bind {l : List Tok} {r : PR α} {q : SR α} {k : α → PS → PR β} {kk : α × List Wd × Int → SR β} {d d' : Int} (h : Rel l r q d) (hk : ∀ x s', s'.deep = d → 0 ≤ s'.pos → Rel l (k x s') (kk (x, vw l s', s'.nods)) d') : Rel l (r.bind k) (q.bind kk) d' := fun z ws m e => by
  cases hq : q with
  | none => rw [hq] at e; cases e
  | some y =>
    obtain ⟨x, w1, m1⟩ := y
    obtain ⟨s1p, rfl, rfl, rfl, a, b⟩ := h x w1 m1 hq
    rw [hq] at e
    exact hk x s1p a b z ws m e
theorem Rel.cond {l : List Tok} {c : Bool} {r r' : PR α} {q q' : SR α} {d : Int} (h : Rel l r q d) (h' : Rel l r' q' d) : Rel l (bif c then r else r') (bif c then q else q') d := by cases c <;> assumption
/-! ### The small parts -/
def sIs (x : List UInt8) : List Wd → Bool
  | [] => false
  | (k, w) :: _ => w == x && (k == 5 || k == 4)
theorem sIs_ok {l : List Tok} {s : PS} {x : List UInt8} (hp : 0 ≤ s.pos) : pIs l x s = sIs x (vw l s) := by
  cases e : vw l s with
  | nil => simp [pIs, vw_nil e, sIs]
  | cons t r =>
    obtain ⟨k, w⟩ := t
    obtain ⟨a, b, _⟩ := vw_cons hp e
    simp [pIs, a, b, sIs]
theorem vw_step {l : List Tok} {s : PS} (hp : 0 ≤ s.pos) : vw l (pStep s) = (vw l s).tail := by
  cases e : vw l s with
  | nil =>
    have e3 : (s.pos + 1).toNat = s.pos.toNat + 1 := by omega
    simp only [vw, stripT, List.map_eq_nil_iff, List.drop_eq_nil_iff] at e
    simp only [vw, stripT, pStep, e3, List.tail_nil, List.map_eq_nil_iff, List.drop_eq_nil_iff]
    omega
  | cons t r =>
    obtain ⟨k, w⟩ := t
    exact (vw_cons hp e).2.2
def sTake (x : List UInt8) (ws : List Wd) (m : Int) : SR Bool := bif sIs x ws then some (true, ws.tail, m) else some (false, ws, m)
theorem sTake_ok {l : List Tok} {s : PS} {x : List UInt8} {d : Int} (hp : 0 ≤ s.pos) (hd : s.deep = d) : Rel l (pTake l x s) (sTake x (vw l s) s.nods) d := by
  unfold pTake sTake
  rw [sIs_ok hp]
  exact Rel.cond (Rel.ok' (s := pStep s) hd (by simp only [pStep]; omega) (vw_step hp)) (Rel.ok hd hp)
def sMust (x : List UInt8) (ws : List Wd) (m : Int) : SR Unit := bif sIs x ws then some ((), ws.tail, m) else none
theorem sMust_ok {l : List Tok} {s : PS} {x : List UInt8} {d : Int} (hp : 0 ≤ s.pos) (hd : s.deep = d) : Rel l (pMust l x s) (sMust x (vw l s) s.nods) d := by
  unfold pMust sMust
  rw [sIs_ok hp]
  exact Rel.cond (Rel.ok' (s := pStep s) hd (by simp only [pStep]; omega) (vw_step hp)) Rel.none
def sKind : List Wd → Int
  | [] => 0
  | t :: _ => t.1
def sWord : List Wd → List UInt8
  | [] => []
  | t :: _ => t.2
theorem sKind_ok {l : List Tok} {s : PS} (hp : 0 ≤ s.pos) : (pNow l s).1 = sKind (vw l s) := by
  cases e : vw l s with
  | nil => rw [vw_nil e]; rfl
  | cons t r => obtain ⟨k, w⟩ := t; exact (vw_cons hp e).1
theorem sWord_ok {l : List Tok} {s : PS} (hp : 0 ≤ s.pos) : (pNow l s).2.1 = sWord (vw l s) := by
  cases e : vw l s with
  | nil => rw [vw_nil e]; rfl
  | cons t r => obtain ⟨k, w⟩ := t; exact (vw_cons hp e).2.1
def sName (ws : List Wd) (m : Int) : SR (List UInt8) := bif sKind ws == 1 then some (sWord ws, ws.tail, m) else none
theorem sName_ok {l : List Tok} {s : PS} {d : Int} (hp : 0 ≤ s.pos) (hd : s.deep = d) : Rel l (pName l s) (sName (vw l s) s.nods) d := by
  unfold pName sName
  rw [sKind_ok hp, sWord_ok hp]
  exact Rel.cond (Rel.ok' (s := pStep s) hd (by simp only [pStep]; omega) (vw_step hp)) Rel.none
def sTyp (ws : List Wd) (m : Int) : SR Int := bif sIs wInt ws then some (1, ws.tail, m) else bif sIs wFloat ws then some (2, ws.tail, m) else bif sIs wBool ws then some (3, ws.tail, m) else none
theorem sTyp_ok {l : List Tok} {s : PS} {d : Int} (hp : 0 ≤ s.pos) (hd : s.deep = d) : Rel l (pTyp l s) (sTyp (vw l s) s.nods) d := by
  have h : ∀ x : Int, Rel l (.ok x (pStep s)) (some (x, (vw l s).tail, s.nods)) d := fun x => Rel.ok' (s := pStep s) hd (by simp only [pStep]; omega) (vw_step hp)
  unfold pTyp sTyp
  rw [sIs_ok hp, sIs_ok hp, sIs_ok hp]
  exact Rel.cond (h _) (Rel.cond (h _) (Rel.cond (h _) Rel.none))
def sNode (n : Nd) (ws : List Wd) (m : Int) : SR Nd := if m + 1 > 2000 then none else some (n, ws, m + 1)
theorem sNode_ok {l : List Tok} {s : PS} {n : Nd} {d : Int} (hp : 0 ≤ s.pos) (hd : s.deep = d) : Rel l (pNode l n s) (sNode n (vw l s) s.nods) d := by
  unfold pNode sNode
  split
  · exact Rel.none
  · exact Rel.ok' (s := { s with nods := s.nods + 1 }) hd hp rfl
def sDeep (body : Int → List Wd → Int → SR α) (d : Int) (ws : List Wd) (m : Int) : SR α := if d + 1 > 40 then none else body (d + 1) ws m
theorem sDeep_ok {l : List Tok} {s : PS} {body : PS → PR α} {sb : Int → List Wd → Int → SR α} {d : Int} (hp : 0 ≤ s.pos) (hd : s.deep = d) (h : ∀ s', s'.deep = d + 1 → 0 ≤ s'.pos → Rel l (body s') (sb (d + 1) (vw l s') s'.nods) (d + 1)) : Rel l (pDeep l body s) (sDeep sb d (vw l s) s.nods) d := by
  unfold pDeep sDeep pIn
  subst hd
  split
  · exact Rel.none
  · intro x ws m e
    obtain ⟨s1p, e1, e2, e3, e4, e5⟩ := h { s with deep := s.deep + 1 } rfl hp x ws m e
    refine ⟨{ s1p with deep := s1p.deep - 1 }, ?_, e2, e3, by simp only; omega, e5⟩
    show pOff (body _) = _
    rw [e1]; rfl
def sLit1 (n : Nd) (ws : List Wd) (m : Int) : SR (Nd × Bool) := (sNode n ws.tail m).bind fun y => some ((y.1, true), y.2.1, y.2.2)
def sPlain (ws : List Wd) (m : Int) : SR (Nd × Bool) :=
  bif sKind ws == 2 then sLit1 (.mk 20 0 [] (valF (sWord ws) : Nat) []) ws m
  else bif sKind ws == 3 then sLit1 (floatN (sWord ws)) ws m
  else bif sIs wTrue ws then sLit1 (.mk 22 0 [] 1 []) ws m
  else bif sIs wFalse ws then sLit1 (.mk 22 0 [] 0 []) ws m
  else some ((.mk 0 0 [] 0 [], false), ws, m)
theorem sPlain_ok {l : List Tok} {s : PS} {d : Int} (hp : 0 ≤ s.pos) (hd : s.deep = d) : Rel l (pPlain l s) (sPlain (vw l s) s.nods) d := by
  have h : ∀ n : Nd, Rel l ((pNode l n (pStep s)).bind fun n s => .ok (n, true) s) (sLit1 n (vw l s) s.nods) d := fun n => by
    unfold sLit1
    have h1 := sNode_ok (l := l) (s := pStep s) (n := n) (d := d) (by simp only [pStep]; omega) hd
    rw [vw_step hp] at h1
    exact Rel.bind h1 fun x s' a b => Rel.ok a b
  unfold pPlain sPlain
  simp only [sIs_ok hp, sKind_ok hp, sWord_ok hp]
  exact Rel.cond (h _) (Rel.cond (h _) (Rel.cond (h _) (Rel.cond (h _) (Rel.ok hd hp))))
end
/-! ### The parts that call each other -/
structure SRec where
  expr : Int → Int → List Wd → Int → SR Nd
  unary : Int → List Wd → Int → SR Nd
  call : List UInt8 → Int → List Wd → Int → SR Nd
  block : Int → List Wd → Int → SR Nd
  stmt : Int → List Wd → Int → SR Nd
  branch : Int → List Wd → Int → SR Nd
section
variable (g : SRec)
def sExprL (least d : Int) : Nat → Nd → List Wd → Int → SR Nd
  | 0, _, _, _ => none
  | j + 1, n, ws, m => bif sKind ws != 5 || decide (rankF (sWord ws) ≤ least) then some (n, ws, m)
    else (g.expr (rankF (sWord ws)) d ws.tail m).bind fun y => (sNode (.mk 26 0 (sWord ws) 0 [n, y.1]) y.2.1 y.2.2).bind fun z => sExprL least d j z.1 z.2.1 z.2.2
def sExpr (least : Int) : Int → List Wd → Int → SR Nd := sDeep fun d ws m => (g.unary d ws m).bind fun y => sExprL g least d (y.2.1.length + 1) y.1 y.2.1 y.2.2
def sUn (x : List UInt8) : Int → List Wd → Int → SR Nd := sDeep fun d ws m => (g.unary d ws m).bind fun y => sNode (.mk 25 0 x 0 [y.1]) y.2.1 y.2.2
def sConv (t : Int) (d : Int) (ws : List Wd) (m : Int) : SR Nd := (sMust [40] ws m).bind fun y => (g.expr 0 d y.2.1 y.2.2).bind fun y => (sNode (.mk 27 t [] 0 [y.1]) y.2.1 y.2.2).bind fun z => (sMust [41] z.2.1 z.2.2).bind fun y => some (z.1, y.2.1, y.2.2)
def sUnary (d : Int) (ws : List Wd) (m : Int) : SR Nd :=
  (sTake [45] ws m).bind fun y => bif y.1 then sUn g [45] d y.2.1 y.2.2 else
  (sTake [33] y.2.1 y.2.2).bind fun y => bif y.1 then sUn g [33] d y.2.1 y.2.2 else
  (sPlain y.2.1 y.2.2).bind fun y => bif y.1.2 then some (y.1.1, y.2.1, y.2.2) else
  (sTake wInt y.2.1 y.2.2).bind fun y => bif y.1 then sConv g 1 d y.2.1 y.2.2 else
  (sTake wFloat y.2.1 y.2.2).bind fun y => bif y.1 then sConv g 2 d y.2.1 y.2.2 else
  (sTake [40] y.2.1 y.2.2).bind fun y => bif y.1 then (g.expr 0 d y.2.1 y.2.2).bind fun z => (sMust [41] z.2.1 z.2.2).bind fun y => some (z.1, y.2.1, y.2.2) else
  (sName y.2.1 y.2.2).bind fun y => bif sIs [40] y.2.1 then g.call y.1 d y.2.1 y.2.2 else sNode (.mk 23 0 y.1 0 []) y.2.1 y.2.2
def sCallL (d : Int) : Nat → Nd → List Wd → Int → SR Nd
  | 0, _, _, _ => none
  | j + 1, n, ws, m => (sTake [41] ws m).bind fun y => bif y.1 then some (n, y.2.1, y.2.2) else
    (bif decide (n.kidsOf.length > 0) then sMust [44] y.2.1 y.2.2 else some ((), y.2.1, y.2.2)).bind fun y =>
    bif decide (n.kidsOf.length ≥ 6) then none else (g.expr 0 d y.2.1 y.2.2).bind fun y => sCallL d j (n.addKid y.1) y.2.1 y.2.2
def sCall (x : List UInt8) : Int → List Wd → Int → SR Nd := sDeep fun d ws m => (sNode (.mk 24 0 x 0 []) ws m).bind fun y => (sMust [40] y.2.1 y.2.2).bind fun z => sCallL g d (z.2.1.length + 1) y.1 z.2.1 z.2.2
def sBlockL (d : Int) : Nat → Nd → List Wd → Int → SR Nd
  | 0, _, _, _ => none
  | j + 1, n, ws, m => (sTake [125] ws m).bind fun y => bif y.1 then some (n, y.2.1, y.2.2) else
    bif decide (n.kidsOf.length ≥ 32) then none else (g.stmt d y.2.1 y.2.2).bind fun y => sBlockL d j (n.addKid y.1) y.2.1 y.2.2
def sBlock : Int → List Wd → Int → SR Nd := sDeep fun d ws m => (sMust [123] ws m).bind fun y => (sNode (.mk 6 0 [] 0 []) y.2.1 y.2.2).bind fun y => sBlockL g d (y.2.1.length + 1) y.1 y.2.1 y.2.2
def sSimple (k : Int) (x : List UInt8) (d : Int) (ws : List Wd) (m : Int) : SR Nd := (sNode (.mk k 0 x 0 []) ws m).bind fun y => (g.expr 0 d y.2.1 y.2.2).bind fun e => (sMust [59] e.2.1 e.2.2).bind fun z => some (y.1.setKids [e.1], z.2.1, z.2.2)
def sStmt (d : Int) (ws : List Wd) (m : Int) : SR Nd :=
  (sTake wIf ws m).bind fun y => bif y.1 then g.branch d y.2.1 y.2.2 else
  (sTake wFor y.2.1 y.2.2).bind fun y => bif y.1 then (sNode (.mk 10 0 [] 0 []) y.2.1 y.2.2).bind fun n => (g.expr 0 d n.2.1 n.2.2).bind fun e => (g.block d e.2.1 e.2.2).bind fun b => some (n.1.setKids [e.1, b.1], b.2.1, b.2.2) else
  (sTake wReturn y.2.1 y.2.2).bind fun y => bif y.1 then sSimple g 11 [] d y.2.1 y.2.2 else
  (sTake wAssert y.2.1 y.2.2).bind fun y => bif y.1 then sSimple g 12 [] d y.2.1 y.2.2 else
  (sTake wSkip y.2.1 y.2.2).bind fun y => bif y.1 then (sMust [59] y.2.1 y.2.2).bind fun y => sNode (.mk 14 0 [] 0 []) y.2.1 y.2.2 else
  (sName y.2.1 y.2.2).bind fun x =>
  (sTake [58, 61] x.2.1 x.2.2).bind fun y => bif y.1 then sSimple g 7 x.1 d y.2.1 y.2.2 else
  (sTake [61] y.2.1 y.2.2).bind fun y => bif y.1 then sSimple g 8 x.1 d y.2.1 y.2.2 else
  (sNode (.mk 13 0 [] 0 []) y.2.1 y.2.2).bind fun n => (g.call x.1 d n.2.1 n.2.2).bind fun c => (sMust [59] c.2.1 c.2.2).bind fun z => some (n.1.setKids [c.1], z.2.1, z.2.2)
def sBranch : Int → List Wd → Int → SR Nd := sDeep fun d ws m => (sNode (.mk 9 0 [] 0 []) ws m).bind fun n => (g.expr 0 d n.2.1 n.2.2).bind fun e => (g.block d e.2.1 e.2.2).bind fun b =>
  (sTake wElse b.2.1 b.2.2).bind fun t => bif !t.1 then some (n.1.setKids [e.1, b.1], t.2.1, t.2.2) else
  (sTake wIf t.2.1 t.2.2).bind fun t => bif t.1 then (sNode (.mk 6 0 [] 0 []) t.2.1 t.2.2).bind fun q => (g.branch d q.2.1 q.2.2).bind fun x => some ((n.1.setKids [e.1, b.1]).addKid (q.1.setKids [x.1]), x.2.1, x.2.2)
  else (g.block d t.2.1 t.2.2).bind fun b2 => some ((n.1.setKids [e.1, b.1]).addKid b2.1, b2.2.1, b2.2.2)
end
def sF : Nat → SRec
  | 0 => ⟨fun _ _ _ _ => none, fun _ _ _ => none, fun _ _ _ _ => none, fun _ _ _ => none, fun _ _ _ => none, fun _ _ _ => none⟩
  | f + 1 => ⟨sExpr (sF f), sUnary (sF f), sCall (sF f), sBlock (sF f), sStmt (sF f), sBranch (sF f)⟩
/-- All parts do. -/
structure RRel (l : List Tok) (p : PRec) (g : SRec) : Prop where
  expr : ∀ k s d, 0 ≤ s.pos → s.deep = d → Rel l (p.expr k s) (g.expr k d (vw l s) s.nods) d
  unary : ∀ s d, 0 ≤ s.pos → s.deep = d → Rel l (p.unary s) (g.unary d (vw l s) s.nods) d
  call : ∀ x s d, 0 ≤ s.pos → s.deep = d → Rel l (p.call x s) (g.call x d (vw l s) s.nods) d
  block : ∀ s d, 0 ≤ s.pos → s.deep = d → Rel l (p.block s) (g.block d (vw l s) s.nods) d
  stmt : ∀ s d, 0 ≤ s.pos → s.deep = d → Rel l (p.stmt s) (g.stmt d (vw l s) s.nods) d
  branch : ∀ s d, 0 ≤ s.pos → s.deep = d → Rel l (p.branch s) (g.branch d (vw l s) s.nods) d
section
variable {l : List Tok} {p : PRec} {g : SRec} (h : RRel l p g)
include h
theorem sExprL_ok {k d : Int} : ∀ (J j : Nat) (n : Nd) (s : PS), J ≤ j → 0 ≤ s.pos → s.deep = d → Rel l (exprL l p k j n s) (sExprL g k d J n (vw l s) s.nods) d
  | 0, _, n, s, _, _, _ => Rel.none
  | J + 1, 0, n, s, hj, _, _ => by omega
  | J + 1, j + 1, n, s, hj, hp, hd => by
    unfold exprL sExprL
    rw [sKind_ok hp, sWord_ok hp]
    refine Rel.cond (Rel.ok hd hp) ?_
    have h1 := h.expr (rankF (sWord (vw l s))) (pStep s) d (by simp only [pStep]; omega) hd
    rw [vw_step hp] at h1
    refine Rel.bind h1 fun x s1p a b => ?_
    exact Rel.bind (sNode_ok b a) fun y s2p a b => sExprL_ok J j y s2p (by omega) b a
theorem sExpr_ok (k : Int) (s : PS) (d : Int) (hp : 0 ≤ s.pos) (hd : s.deep = d) : Rel l (exprG l p k s) (sExpr g k d (vw l s) s.nods) d := by
  unfold exprG sExpr
  refine sDeep_ok hp hd fun s1p a b => ?_
  refine Rel.bind (h.unary s1p (d + 1) b a) fun x s2p a b => ?_
  exact sExprL_ok h _ _ x s2p (Nat.add_le_add_right (vw_len l s2p) 1) b a
theorem sUn_ok (x : List UInt8) (s : PS) (d : Int) (hp : 0 ≤ s.pos) (hd : s.deep = d) : Rel l (pUn l p x s) (sUn g x d (vw l s) s.nods) d := by
  unfold pUn sUn
  refine sDeep_ok hp hd fun s1p a b => ?_
  exact Rel.bind (h.unary s1p (d + 1) b a) fun x s2p a b => sNode_ok b a
theorem sConv_ok (t : Int) (s : PS) (d : Int) (hp : 0 ≤ s.pos) (hd : s.deep = d) : Rel l (pConv l p t s) (sConv g t d (vw l s) s.nods) d := by
  unfold pConv sConv
  refine Rel.bind (sMust_ok hp hd) fun _ s1p a b => ?_
  refine Rel.bind (h.expr 0 s1p d b a) fun x s2p a b => ?_
  refine Rel.bind (sNode_ok b a) fun x s3p a b => ?_
  exact Rel.bind (sMust_ok b a) fun _ s4p a b => Rel.ok a b
theorem sUnary_ok (s : PS) (d : Int) (hp : 0 ≤ s.pos) (hd : s.deep = d) : Rel l (unaryG l p s) (sUnary g d (vw l s) s.nods) d := by
  unfold unaryG sUnary
  refine Rel.bind (sTake_ok hp hd) fun t s1p a b => Rel.cond (sUn_ok h _ s1p d b a) ?_
  refine Rel.bind (sTake_ok b a) fun t s1p a b => Rel.cond (sUn_ok h _ s1p d b a) ?_
  refine Rel.bind (sPlain_ok b a) fun t s1p a b => Rel.cond (Rel.ok a b) ?_
  refine Rel.bind (sTake_ok b a) fun t s1p a b => Rel.cond (sConv_ok h _ s1p d b a) ?_
  refine Rel.bind (sTake_ok b a) fun t s1p a b => Rel.cond (sConv_ok h _ s1p d b a) ?_
  refine Rel.bind (sTake_ok b a) fun t s1p a b => Rel.cond ?_ ?_
  · refine Rel.bind (h.expr 0 s1p d b a) fun x s2p a b => ?_
    exact Rel.bind (sMust_ok b a) fun _ s4p a b => Rel.ok a b
  · refine Rel.bind (sName_ok b a) fun x s2p a b => ?_
    rw [sIs_ok b]
    exact Rel.cond (h.call x s2p d b a) (sNode_ok b a)
theorem sCallL_ok {d : Int} : ∀ (J j : Nat) (n : Nd) (s : PS), J ≤ j → 0 ≤ s.pos → s.deep = d → Rel l (callL l p j n s) (sCallL g d J n (vw l s) s.nods) d
  | 0, _, n, s, _, _, _ => Rel.none
  | J + 1, 0, n, s, hj, _, _ => by omega
  | J + 1, j + 1, n, s, hj, hp, hd => by
    unfold callL sCallL
    refine Rel.bind (sTake_ok hp hd) fun t s1p a b => Rel.cond (Rel.ok a b) ?_
    refine Rel.bind (d := d) (Rel.cond (sMust_ok b a) (Rel.ok a b)) fun _ s2p a b => Rel.cond Rel.none ?_
    exact Rel.bind (h.expr 0 s2p d b a) fun x s3p a b => sCallL_ok J j _ s3p (by omega) b a
theorem sCall_ok (x : List UInt8) (s : PS) (d : Int) (hp : 0 ≤ s.pos) (hd : s.deep = d) : Rel l (callG l p x s) (sCall g x d (vw l s) s.nods) d := by
  unfold callG sCall
  refine sDeep_ok hp hd fun s1p a b => ?_
  refine Rel.bind (sNode_ok b a) fun n s2p a b => ?_
  exact Rel.bind (sMust_ok b a) fun _ s3p a b => sCallL_ok h _ _ n s3p (Nat.add_le_add_right (vw_len l s3p) 1) b a
theorem sBlockL_ok {d : Int} : ∀ (J j : Nat) (n : Nd) (s : PS), J ≤ j → 0 ≤ s.pos → s.deep = d → Rel l (blockL l p j n s) (sBlockL g d J n (vw l s) s.nods) d
  | 0, _, n, s, _, _, _ => Rel.none
  | J + 1, 0, n, s, hj, _, _ => by omega
  | J + 1, j + 1, n, s, hj, hp, hd => by
    unfold blockL sBlockL
    refine Rel.bind (sTake_ok hp hd) fun t s1p a b => Rel.cond (Rel.ok a b) (Rel.cond Rel.none ?_)
    exact Rel.bind (h.stmt s1p d b a) fun x s3p a b => sBlockL_ok J j _ s3p (by omega) b a
theorem sBlock_ok (s : PS) (d : Int) (hp : 0 ≤ s.pos) (hd : s.deep = d) : Rel l (blockG l p s) (sBlock g d (vw l s) s.nods) d := by
  unfold blockG sBlock
  refine sDeep_ok hp hd fun s1p a b => ?_
  refine Rel.bind (sMust_ok b a) fun _ s2p a b => ?_
  exact Rel.bind (sNode_ok b a) fun n s3p a b => sBlockL_ok h _ _ n s3p (Nat.add_le_add_right (vw_len l s3p) 1) b a
theorem sSimple_ok (k : Int) (x : List UInt8) (s : PS) (d : Int) (hp : 0 ≤ s.pos) (hd : s.deep = d) : Rel l (pSimple l p k x s) (sSimple g k x d (vw l s) s.nods) d := by
  unfold pSimple sSimple
  refine Rel.bind (sNode_ok hp hd) fun n s1p a b => ?_
  refine Rel.bind (h.expr 0 s1p d b a) fun e s2p a b => ?_
  exact Rel.bind (sMust_ok b a) fun _ s4p a b => Rel.ok a b
theorem sStmt_ok (s : PS) (d : Int) (hp : 0 ≤ s.pos) (hd : s.deep = d) : Rel l (stmtG l p s) (sStmt g d (vw l s) s.nods) d := by
  unfold stmtG sStmt
  refine Rel.bind (sTake_ok hp hd) fun t s1p a b => Rel.cond (h.branch s1p d b a) ?_
  refine Rel.bind (sTake_ok b a) fun t s1p a b => Rel.cond ?_ ?_
  · refine Rel.bind (sNode_ok b a) fun n s2p a b => ?_
    refine Rel.bind (h.expr 0 s2p d b a) fun e s3p a b => ?_
    exact Rel.bind (h.block s3p d b a) fun b s4p a b => Rel.ok a b
  refine Rel.bind (sTake_ok b a) fun t s1p a b => Rel.cond (sSimple_ok h _ _ s1p d b a) ?_
  refine Rel.bind (sTake_ok b a) fun t s1p a b => Rel.cond (sSimple_ok h _ _ s1p d b a) ?_
  refine Rel.bind (sTake_ok b a) fun t s1p a b => Rel.cond ?_ ?_
  · exact Rel.bind (sMust_ok b a) fun _ s2p a b => sNode_ok b a
  refine Rel.bind (sName_ok b a) fun x s2p a b => ?_
  refine Rel.bind (sTake_ok b a) fun t s1p a b => Rel.cond (sSimple_ok h _ _ s1p d b a) ?_
  refine Rel.bind (sTake_ok b a) fun t s1p a b => Rel.cond (sSimple_ok h _ _ s1p d b a) ?_
  refine Rel.bind (sNode_ok b a) fun n s2p a b => ?_
  refine Rel.bind (h.call x s2p d b a) fun c s3p a b => ?_
  exact Rel.bind (sMust_ok b a) fun _ s4p a b => Rel.ok a b
theorem sBranch_ok (s : PS) (d : Int) (hp : 0 ≤ s.pos) (hd : s.deep = d) : Rel l (branchG l p s) (sBranch g d (vw l s) s.nods) d := by
  unfold branchG sBranch
  refine sDeep_ok hp hd fun s1p a b => ?_
  generalize d + 1 = d at a
  refine Rel.bind (sNode_ok b a) fun n s1p a b => ?_
  refine Rel.bind (h.expr 0 s1p d b a) fun e s1p a b => ?_
  refine Rel.bind (h.block s1p d b a) fun b1 s1p a b => ?_
  refine Rel.bind (sTake_ok b a) fun t s1p a b => Rel.cond (Rel.ok a b) ?_
  refine Rel.bind (sTake_ok b a) fun t s1p a b => Rel.cond ?_ ?_
  · refine Rel.bind (sNode_ok b a) fun q s1p a b => ?_
    exact Rel.bind (h.branch s1p d b a) fun x s1p a b => Rel.ok a b
  · exact Rel.bind (h.block s1p d b a) fun b2 s1p a b => Rel.ok a b
end
theorem sF_ok (l : List Tok) : ∀ f, RRel l (psF l f) (sF f)
  | 0 => ⟨fun _ _ _ _ _ => Rel.none, fun _ _ _ _ => Rel.none, fun _ _ _ _ _ => Rel.none, fun _ _ _ _ => Rel.none, fun _ _ _ _ => Rel.none, fun _ _ _ _ => Rel.none⟩
  | f + 1 => ⟨sExpr_ok (sF_ok l f), sUnary_ok (sF_ok l f), sCall_ok (sF_ok l f), sBlock_ok (sF_ok l f), sStmt_ok (sF_ok l f), sBranch_ok (sF_ok l f)⟩
/-! ### Declarations, programs, texts -/
section
variable (g : SRec)
def sParamL : Nat → Nd → List Wd → Int → SR Nd
  | 0, _, _, _ => none
  | j + 1, n, ws, m => (sTake [41] ws m).bind fun y => bif y.1 then some (n, y.2.1, y.2.2) else
    (bif decide (n.kidsOf.length > 0) then sMust [44] y.2.1 y.2.2 else some ((), y.2.1, y.2.2)).bind fun y =>
    bif decide (n.kidsOf.length ≥ 6) then none else
    (sName y.2.1 y.2.2).bind fun x => (sTyp x.2.1 x.2.2).bind fun t => (sNode (.mk 5 t.1 x.1 0 []) t.2.1 t.2.2).bind fun q => sParamL j (n.addKid q.1) q.2.1 q.2.2
def sLit (ws : List Wd) (m : Int) : SR Nd := (sTake [45] ws m).bind fun mi => (sPlain mi.2.1 mi.2.2).bind fun x =>
  bif !x.1.2 || (mi.1 && x.1.1.kind == 22) then none
  else some (bif mi.1 && x.1.1.kind == 20 then x.1.1.setN (IntKind.i64.wrap (0 - x.1.1.num)) else bif mi.1 && x.1.1.kind == 21 then x.1.1.setN (negB x.1.1.num) else x.1.1, x.2.1, x.2.2)
def sDecl (d : Int) (ws : List Wd) (m : Int) : SR Nd :=
  (sTake wVar ws m).bind fun y => bif y.1 then (sName y.2.1 y.2.2).bind fun x => (sTyp x.2.1 x.2.2).bind fun t => (sNode (.mk 2 t.1 x.1 0 []) t.2.1 t.2.2).bind fun n => (sMust [61] n.2.1 n.2.2).bind fun z => (sLit z.2.1 z.2.2).bind fun v => (sMust [59] v.2.1 v.2.2).bind fun z => some (n.1.setKids [v.1], z.2.1, z.2.2) else
  (sTake wTest y.2.1 y.2.2).bind fun y => bif y.1 then (sName y.2.1 y.2.2).bind fun x => (sNode (.mk 4 0 x.1 0 []) x.2.1 x.2.2).bind fun n => (g.block d n.2.1 n.2.2).bind fun b => some (n.1.setKids [b.1], b.2.1, b.2.2) else
  (sMust wFunc y.2.1 y.2.2).bind fun y => (sName y.2.1 y.2.2).bind fun x => (sNode (.mk 3 0 x.1 0 []) x.2.1 x.2.2).bind fun n => (sMust [40] n.2.1 n.2.2).bind fun z =>
  (sParamL (z.2.1.length + 1) n.1 z.2.1 z.2.2).bind fun n => (sTyp n.2.1 n.2.2).bind fun t => (g.block d t.2.1 t.2.2).bind fun b => some ((n.1.setT t.1).addKid b.1, b.2.1, b.2.2)
def sProgL (d : Int) : Nat → Int → Int → Nd → List Wd → Int → SR Nd
  | 0, _, _, _, _, _ => none
  | j + 1, fs, gs, n, ws, m => bif sKind ws != 0 then
      (bif decide ((bif sIs wVar ws then gs + 1 else gs) > 16) || decide ((bif sIs wVar ws then fs else fs + 1) > 32) then none else (sDecl g d ws m).bind fun y => sProgL d j (bif sIs wVar ws then fs else fs + 1) (bif sIs wVar ws then gs + 1 else gs) (n.addKid y.1) y.2.1 y.2.2)
    else some (n, ws, m)
def sProg (d : Int) (ws : List Wd) (m : Int) : SR Nd := (sNode (.mk 1 0 [] 0 []) ws m).bind fun y => sProgL g d (y.2.1.length + 1) 0 0 y.1 y.2.1 y.2.2
end
theorem sParamL_ok {l : List Tok} {d : Int} : ∀ (J j : Nat) (n : Nd) (s : PS), J ≤ j → 0 ≤ s.pos → s.deep = d → Rel l (paramL l j n s) (sParamL J n (vw l s) s.nods) d
  | 0, _, n, s, _, _, _ => Rel.none
  | J + 1, 0, n, s, hj, _, _ => by omega
  | J + 1, j + 1, n, s, hj, hp, hd => by
    unfold paramL sParamL
    refine Rel.bind (sTake_ok hp hd) fun t s1p a b => Rel.cond (Rel.ok a b) ?_
    refine Rel.bind (d := d) (Rel.cond (sMust_ok b a) (Rel.ok a b)) fun _ s2p a b => Rel.cond Rel.none ?_
    refine Rel.bind (sName_ok b a) fun x s3p a b => ?_
    refine Rel.bind (sTyp_ok b a) fun t s3p a b => ?_
    exact Rel.bind (sNode_ok b a) fun q s3p a b => sParamL_ok J j _ s3p (by omega) b a
theorem sLit_ok {l : List Tok} {d : Int} (s : PS) (hp : 0 ≤ s.pos) (hd : s.deep = d) : Rel l (pLit l s) (sLit (vw l s) s.nods) d := by
  unfold pLit sLit
  refine Rel.bind (sTake_ok hp hd) fun t s1p a b => ?_
  refine Rel.bind (sPlain_ok b a) fun x s2p a b => ?_
  exact Rel.cond Rel.none (Rel.ok a b)
theorem sDecl_ok {l : List Tok} {p : PRec} {g : SRec} (h : RRel l p g) {d : Int} (s : PS) (hp : 0 ≤ s.pos) (hd : s.deep = d) : Rel l (declG l p s) (sDecl g d (vw l s) s.nods) d := by
  unfold declG sDecl
  refine Rel.bind (sTake_ok hp hd) fun t s1p a b => Rel.cond ?_ ?_
  · refine Rel.bind (sName_ok b a) fun x s3p a b => ?_
    refine Rel.bind (sTyp_ok b a) fun t s3p a b => ?_
    refine Rel.bind (sNode_ok b a) fun n s3p a b => ?_
    refine Rel.bind (sMust_ok b a) fun _ s3p a b => ?_
    refine Rel.bind (sLit_ok _ b a) fun v s3p a b => ?_
    exact Rel.bind (sMust_ok b a) fun _ s3p a b => Rel.ok a b
  refine Rel.bind (sTake_ok b a) fun t s1p a b => Rel.cond ?_ ?_
  · refine Rel.bind (sName_ok b a) fun x s3p a b => ?_
    refine Rel.bind (sNode_ok b a) fun n s3p a b => ?_
    exact Rel.bind (h.block s3p d b a) fun _ s3p a b => Rel.ok a b
  refine Rel.bind (sMust_ok b a) fun _ s3p a b => ?_
  refine Rel.bind (sName_ok b a) fun x s3p a b => ?_
  refine Rel.bind (sNode_ok b a) fun n s3p a b => ?_
  refine Rel.bind (sMust_ok b a) fun _ s3p a b => ?_
  refine Rel.bind (sParamL_ok _ _ _ s3p (Nat.add_le_add_right (vw_len l s3p) 1) b a) fun n s3p a b => ?_
  refine Rel.bind (sTyp_ok b a) fun t s3p a b => ?_
  exact Rel.bind (h.block s3p d b a) fun _ s3p a b => Rel.ok a b
theorem sProgL_ok {l : List Tok} {p : PRec} {g : SRec} (h : RRel l p g) {d : Int} : ∀ (J j : Nat) (fs gs : Int) (n : Nd) (s : PS), J ≤ j → 0 ≤ s.pos → s.deep = d → Rel l (progL l p j fs gs n s) (sProgL g d J fs gs n (vw l s) s.nods) d
  | 0, _, fs, gs, n, s, _, _, _ => Rel.none
  | J + 1, 0, fs, gs, n, s, hj, _, _ => by omega
  | J + 1, j + 1, fs, gs, n, s, hj, hp, hd => by
    unfold progL sProgL
    simp only [sKind_ok hp, sIs_ok hp]
    refine Rel.cond (Rel.cond Rel.none ?_) (Rel.ok hd hp)
    exact Rel.bind (sDecl_ok h s hp hd) fun x s1p a b => sProgL_ok h J j _ _ _ s1p (by omega) b a
theorem sProg_ok {l : List Tok} {p : PRec} {g : SRec} (h : RRel l p g) {d : Int} (s : PS) (hp : 0 ≤ s.pos) (hd : s.deep = d) : Rel l (progG l p s) (sProg g d (vw l s) s.nods) d := by
  unfold progG sProg
  exact Rel.bind (sNode_ok hp hd) fun n s1p a b => sProgL_ok h _ _ _ _ n s1p (Nat.add_le_add_right (vw_len l s1p) 1) b a
theorem parse_of {x : List UInt8} {f : Nat} {n : Nd} {ws : List Wd} {m : Int} (h1 : (tokens x).2.2 = 0) (h2 : sProg (sF f) 0 (stripT (tokens x).1) 0 = some (n, ws, m)) : parseF f x = some (n, 0, 0) := by
  unfold parseF
  rw [if_pos h1]
  obtain ⟨s', e, _⟩ := sProg_ok (sF_ok (tokens x).1 f) ⟨0, 0, 0⟩ (Int.le_refl 0) rfl n ws m h2
  rw [e]
end
end Go.Proofs.YtpagdhbmbnoddaaGreatDoor.Zz
/- The words of a text, told from its end on. -/
namespace Go.Proofs.YtpagdhbmbnoddaaGreatDoor.Zz
set_option linter.unusedVariables false
set_option linter.unusedSimpArgs false
/-- The words of a text, with blanks ahead. -/
def TokB (l : List UInt8) (ws : List Wd) : Prop := ∀ (n p : Nat) (out : List Tok), (l.drop (blankL l)).length < n → ∃ ts, toksN n p (l.drop (blankL l)) out = (out ++ ts, 0, 0) ∧ stripT ts = ws
theorem TokB.nil : TokB [] [(0, [])] := fun n p out h => by
  cases n with
  | zero => simp at h
  | succ n => exact ⟨[(0, [], (p : Int))], by rw [show ([] : List UInt8).drop (blankL []) = [] from rfl]; rfl, rfl⟩
theorem TokB.sp {r : List UInt8} {ws : List Wd} {c : UInt8} (hc : isSp c = true) (h : TokB r ws) : TokB (c :: r) ws := by
  have e : (c :: r).drop (blankL (c :: r)) = r.drop (blankL r) := by
    rw [blankL_cons, if_pos hc, Nat.add_comm 1]
    rfl
  unfold TokB
  rw [e]
  exact h
theorem TokB.word {l : List UInt8} (k : Int) (w r : List UInt8) {ws : List Wd} (e : l = w ++ r) (h0 : blankL l = 0) (h1 : oneL l = (k, w, true)) (hw : w ≠ []) (h : TokB r ws) : TokB l ((k, w) :: ws) := by
  unfold TokB
  rw [h0, List.drop_zero]
  intro n p out hn
  cases n with
  | zero => omega
  | succ n =>
    have hne : ¬ l = [] := fun x => by rw [e] at x; exact hw (List.append_eq_nil_iff.1 x).1
    unfold toksN
    rw [if_neg hne, h1]
    simp only [reduceCtorEq, if_false, Bool.true_eq_false]
    have e1 : l.drop w.length = r := by rw [e, List.drop_left]
    have e2 : ∀ b, l.drop (w.length + b) = r.drop b := fun b => by rw [← List.drop_drop, e1]
    rw [e1, e2]
    have hwl : 0 < w.length := List.length_pos_iff.2 hw
    have hl : l.length = w.length + r.length := by rw [e, List.length_append]
    obtain ⟨ts, a, b⟩ := h n (p + w.length + blankL r) (out ++ [(k, w, (p : Int))]) (by rw [List.length_drop]; omega)
    exact ⟨(k, w, (p : Int)) :: ts, by rw [a]; simp, by simp [stripT, ← b]⟩
theorem tokens_of {x : List UInt8} {ws : List Wd} (h : TokB x ws) (hl : x.length ≤ 4096) : (tokens x).2.2 = 0 ∧ stripT (tokens x).1 = ws := by
  obtain ⟨ts, a, b⟩ := h (x.length + 1) (blankL x) [] (by rw [List.length_drop]; omega)
  unfold tokens
  rw [if_neg (by omega), a]
  exact ⟨rfl, by simpa using b⟩
theorem spn_app {p : Int → Bool} : ∀ (w r : List UInt8), (∀ x ∈ w, p (x.toNat : Int) = true) → spn p r = 0 → spn p (w ++ r) = w.length
  | [], r, _, h => by simpa using h
  | c :: w, r, hw, h => by
    rw [List.cons_append, spn_cons, if_pos (hw c (by simp)), spn_app w r (fun x hx => hw x (by simp [hx])) h]
    rfl
theorem letter_ok {c : UInt8} (hc : isLetter (c.toNat : Int) = true) : isDigit (c.toNat : Int) = false ∧ isSp c = false ∧ c ≠ 47 ∧ nameP (c.toNat : Int) = true := by
  simp only [isLetter, Bool.or_eq_true, Bool.and_eq_true, decide_eq_true_eq, beq_iff_eq] at hc
  refine ⟨?_, ?_, ?_, ?_⟩
  · simp only [isDigit, Bool.and_eq_false_iff, decide_eq_false_iff_not]; omega
  · simp only [isSp, Bool.or_eq_false_iff, beq_eq_false_iff_ne]; omega
  · intro e; subst e
    have : (47 : UInt8).toNat = 47 := rfl
    omega
  · simp only [nameP, isLetter, Bool.or_eq_true, Bool.and_eq_true, decide_eq_true_eq, beq_iff_eq]; exact .inl hc
theorem pre_first {c : UInt8} {t : List UInt8} (h : c ≠ 47) : pre (c :: t) [47, 47] = false := by
  cases t with
  | nil => simp [pre]
  | cons d t => simp [pre, h]
/-- A name, or a word that is kept. -/
theorem TokB.name {l : List UInt8} (k : Int) (c : UInt8) (w r : List UInt8) {ws : List Wd} (e : l = (c :: w) ++ r) (hc : isLetter (c.toNat : Int) = true) (hw : ∀ x ∈ w, nameP (x.toNat : Int) = true) (hr : spn nameP r = 0)
    (hk : (words.contains (c :: w) = true ∧ k = 4) ∨ (words.contains (c :: w) = false ∧ k = 1 ∧ (c :: w).length ≤ 16)) (h : TokB r ws) : TokB l ((k, c :: w) :: ws) := by
  obtain ⟨a1, a2, a3, a4⟩ := letter_ok hc
  subst e
  refine TokB.word k (c :: w) r rfl ?_ ?_ (by simp) h
  · rw [List.cons_append, blankL_cons, if_neg (by simp [a2]), if_neg (by simp [pre_first a3])]
  · have hcw : ∀ x ∈ c :: w, nameP (x.toNat : Int) = true := fun x hx => (List.mem_cons.1 hx).elim (fun e => by rw [e]; exact a4) (fun e => hw x e)
    have hs := spn_app (p := nameP) (c :: w) r hcw hr
    have hg : ((c :: w) ++ r).getD 0 0 = c := rfl
    have ht : ((c :: w) ++ r).take (c :: w).length = c :: w := List.take_left
    unfold oneL
    rw [hg, if_neg (by simp [a1]), if_pos hc, hs, ht]
    rcases hk with ⟨b1, b2⟩ | ⟨b1, b2, b3⟩
    · rw [if_pos b1, b2]
    · rw [if_neg (by rw [b1]; simp), b2]
      simpa using b3
theorem spn_zero {p : Int → Bool} {c : UInt8} {r : List UInt8} (h : p (c.toNat : Int) = false) : spn p (c :: r) = 0 := by rw [spn_cons, if_neg (by simp [h])]
end Go.Proofs.YtpagdhbmbnoddaaGreatDoor.Zz
