/- Contracts: are nodes gone over in the order of their places? -/
import Derived.Test.YthpgepillaeldaaDoorZA14
import Derived.Test.YthpgepillaeldaaDoorZA13
import Derived.Test.YthpgepillaeldaaDoorZG0
import Derived.Laws.RangeString
import Derived.Test.YthpgepillaeldaaDoorZZC
import Derived.Lib.SmallJoins
set_option linter.unnecessarySimpa false
namespace Go.Proofs.YthpgepillaeldaaDoor.Zz
noncomputable section
set_option linter.unusedVariables false
set_option linter.unusedSimpArgs false
set_option maxRecDepth 20000
def p21n : Plan := ⟨⟨[], [(2, 1)], [(5, 13)], [], [], []⟩, [(5, [0, 1, 2, 3, 4, 5, 6, 7, 8, 9, 10, 11, 12, 13, 14, 15, 16, 17, 18])], [], false⟩
/-- cupel/cupellaw10.places (2 parameters, 0 captured) -/
def s21n : Stm :=
  .seq (.ops [⟨.box (.t 0), (some 2), none, false⟩,
     ⟨.box (.t 1), (some 3), none, false⟩,
     ⟨.alloc [(.bool false)], (some 4), none, false⟩])
  (.seq (.ops [⟨.alloc [(.int .i64 0)], (some 5), none, false⟩,
     ⟨.store 1 (.t 5) (.c (.int .i64 0)), none, none, false⟩])
  (.seq (.seq (.ops [⟨.load (some 5) (.t 2), (some 8), none, false⟩,
      ⟨.call (.f 46) [(.t 8)], (some 9), none, false⟩])
   (.block 0 (.rangeF (.t 9) [10, 11]
     (.seq (.ops [⟨.mov (.t 10), (some 6), none, true⟩])
      (.ops [⟨.alloc [(.int .i64 0), (.int .i64 0), (.str []), (.int .i64 0), .nilsl], (some 7), none, false⟩,
        ⟨.store 5 (.t 7) (.t 11), none, none, false⟩]))
     (.block 1 (.seq (.seq (.opsD [⟨.mov (.t 6), (some 12), none, true⟩,
           ⟨.load none (.t 5), (some 13), none, false⟩,
           ⟨.bin .neq (.t 12) (.t 13), (some 14), none, true⟩,
           ⟨.mov (.t 14), (some 15), none, true⟩,
           ⟨.load none (.t 5), (some 16), (some (15, false)), false⟩,
           ⟨.load none (.t 3), (some 17), (some (15, false)), false⟩,
           ⟨.len0 .sl (.t 17), (some 18), (some (15, false)), true⟩,
           ⟨.bin .geq (.t 16) (.t 18), (some 19), (some (15, false)), true⟩,
           ⟨.pick (.t 15) (.c (.bool true)) (.t 19), (some 20), none, true⟩,
           ⟨.mov (.t 20), (some 21), none, true⟩,
           ⟨.load (some 5) (.t 7), (some 22), (some (21, false)), false⟩,
           ⟨.load none (.t 3), (some 23), (some (21, false)), false⟩,
           ⟨.load none (.t 5), (some 24), (some (21, false)), false⟩,
           ⟨.indexAddrS 5 (.t 23) (.t 24), (some 25), (some (21, false)), false⟩,
           ⟨.load (some 5) (.t 25), (some 26), (some (21, false)), false⟩,
           ⟨.qcall (.f 23) [(.t 26)], (some 27), (some (21, false)), false⟩,
           ⟨.qcall (.f 19) [(.t 22), (.t 27)], (some 28), (some (21, false)), false⟩,
           ⟨.un .not (.t 28), (some 29), (some (21, false)), true⟩,
           ⟨.pick (.t 21) (.c (.bool true)) (.t 29), (some 30), none, true⟩])
        (.cond (.t 30)
         (.seq (.ops [⟨.store 1 (.t 4) (.c (.bool false)), none, none, false⟩])
          (.ret))
         (.skip)))
       (.ops [⟨.load none (.t 5), (some 31), none, false⟩,
         ⟨.bin .add (.t 31) (.c (.int .i64 1)), (some 32), none, true⟩,
         ⟨.store 1 (.t 5) (.t 32), none, none, false⟩]))))))
  (.seq (.ops [⟨.load none (.t 5), (some 33), none, false⟩,
     ⟨.load none (.t 3), (some 34), none, false⟩,
     ⟨.len .sl (.t 34), (some 35), none, false⟩,
     ⟨.bin .eql (.t 33) (.t 35), (some 36), none, true⟩,
     ⟨.store 1 (.t 4) (.t 36), none, none, false⟩])
  (.ret))))
theorem st21n : stmOf Tryd.prog 21 p21n = some (s21n, [.cell 4 none], 37) := by kernel_rfl

def q23n := qN (fun n => decide (n.cnt < 1000000000)) fun n => .agg n.enc
theorem q23n_ok (args : List D) (d : D) (h : q23n args = some d) : PCall Tryd.prog 23 args d := qN_ok (fun n h => back_c n (by simpa using h)) args d h
theorem sameN_self (n : Nd) : sameN n n = true := sameN_iff.2 rfl
def tb23n : Tab := tbR.addQ 23 q23n
theorem tb23n_q (g : FuncId) (args : List D) : tb23n.q g args = if g = 23 then q23n args else tbR.q g args := rfl
theorem tb23n_a : tb23n.a = tbR.a := rfl
theorem tb23n_c : tb23n.c = tbR.c := rfl
theorem tb23n_ok : tb23n.ok Tryd.prog := Tab.addQ_ok tbR_ok q23n_ok
theorem tb23n_e : type_of% (And.intro (And.intro @tb23n_q (And.intro @tb23n_a @tb23n_c)) @tbR_e) := (And.intro (And.intro @tb23n_q (And.intro @tb23n_a @tb23n_c)) @tbR_e)

theorem cnts_mem_le {l : List Nd} {x : Nd} (h : x ∈ l) : x.cnt ≤ Nd.cnts l := by
  induction l with
  | nil => cases h
  | cons y l ih =>
    rw [cnts_cons]
    rcases List.mem_cons.1 h with e | e
    · subst e; omega
    · have := ih e; omega
theorem cnt_mem : ∀ (n x : Nd), x ∈ listF n → x.cnt ≤ n.cnt := by
  intro n
  induction n using Nd.rec (motive_2 := fun l => ∀ x ∈ listFs l, x.cnt ≤ Nd.cnts l) with
  | mk k t s m l ih =>
    intro x hx
    rw [listF_mk] at hx
    rcases List.mem_cons.1 hx with e | e
    · subst e; exact Nat.le_refl _
    · have := ih x e; rw [cnt_mk]; omega
  | nil => rename_i x hx; rw [listFs_nil] at hx; cases hx
  | cons y l ih1 ih2 =>
    rename_i x hx
    rw [listFs_cons] at hx
    rw [cnts_cons]
    rcases List.mem_append.1 hx with e | e
    · have := ih1 x e; omega
    · have := ih2 x e; omega
set_option maxHeartbeats 1000000 in
theorem places_c (n : Nd) (hn : n.cnt ≤ 100000000) : PCall Tryd.prog 21 [.agg n.enc, .sl (Nd.encs (listF n))] (.bool true) := by
  refine ACalls.of_stmD tb23n_ok (dc := DTab.none) (fun _ _ => DTab.none_ok) (by kernel_rfl) st21n (by simp) ?_
  have hTr : tb23n.r = tbR.r := rfl
  rw [vc_todo]
  have hlen : (listF n).length = n.cnt := listF_len n
  have hel : (Nd.encs (listF n)).length = n.cnt := by rw [len_encs, hlen]
  obtain ⟨k, t, s, m, kids⟩ := n
  generalize hL : listF (.mk k t s m kids) = L at *
  generalize hE : Nd.encs L = EL at *
  rw [enc_mk]
  simp (config := {maxSteps := 1000000}) only [s21n, tbR_e, tb46r_e, tb41n_e, tbLp_e, tb12n_e, tbRt_e, tb23n_e, retS_ret, i_callNe, Int.natCast_nonneg, Nat.le_refl, Int.le_refl, List.take_succ_cons, List.take_zero, decide_true, decide_false, Bool.and_false, Bool.false_and, zz, zzN, zzF, zzD, zzM, cond_true, cond_false, ↓reduceIte, Nat.reduceEqDiff, Nat.reduceBEq, Int.reduceLT, Int.reduceLE, Int.reduceToNat, Int.reduceEq, Int.reduceAdd, Int.reduceSub, Int.reduceMul, Int.reduceNeg, Nat.reduceMul, Nat.reduceSub, Nat.reduceLeDiff, Nat.reduceLT, Int.reduceGT, Int.reduceGE, Int.reduceBEq, Int.reduceBNe, reduceCtorEq, Nat.reduceAdd]
  intro i1  i2 a2_1 b2_1 i3 a3_2 b3_2 a3_1 b3_1 i4 a4_3 b4_3 a4_2 b4_2 a4_1 b4_1
  simp (config := {maxSteps := 1000000}) only [a2_1, b2_1, a3_2, b3_2, a3_1, b3_1, a4_3, b4_3, a4_2, b4_2, a4_1, b4_1, s46r, tbR_e, tb46r_e, tb41n_e, tbLp_e, tb12n_e, tbRt_e, tb23n_e, retS_ret, i_callNe, Int.natCast_nonneg, Nat.le_refl, Int.le_refl, List.take_succ_cons, List.take_zero, decide_true, decide_false, Bool.and_false, Bool.false_and, zz, zzN, zzF, zzD, zzM, cond_true, cond_false, ↓reduceIte, Nat.reduceEqDiff, Nat.reduceBEq, Int.reduceLT, Int.reduceLE, Int.reduceToNat, Int.reduceEq, Int.reduceAdd, Int.reduceSub, Int.reduceMul, Int.reduceNeg, Nat.reduceMul, Nat.reduceSub, Nat.reduceLeDiff, Nat.reduceLT, Int.reduceGT, Int.reduceGE, Int.reduceBEq, Int.reduceBNe, reduceCtorEq, Nat.reduceAdd]
  intro i5 a5_4 b5_4 a5_3 b5_3 a5_2 b5_2 a5_1 b5_1
  refine run_rangeF (f := 76) (first := []) (cap := [.ptr i5 1 0]) (by simp only [i_callNe, Int.natCast_nonneg, Nat.le_refl, Int.le_refl, List.take_succ_cons, List.take_zero, decide_true, decide_false, Bool.and_false, Bool.false_and, zz, zzN, zzF, zzD, zzM, cond_true, cond_false, ↓reduceIte, Nat.reduceEqDiff, Nat.reduceBEq, Int.reduceLT, Int.reduceLE, Int.reduceToNat, Int.reduceEq, Int.reduceAdd, Int.reduceSub, Int.reduceMul, Int.reduceNeg, Nat.reduceMul, Nat.reduceSub, Nat.reduceLeDiff, Nat.reduceLT, Int.reduceGT, Int.reduceGE, Int.reduceBEq, Int.reduceBNe, reduceCtorEq, Nat.reduceAdd]) fun l r rd hr hrd hne => ?_
  have n_i1 : ¬ r = i1 := fun e => by subst e; simp [a2_1, b2_1, a3_2, b3_2, a3_1, b3_1, a4_3, b4_3, a4_2, b4_2, a4_1, b4_1, a5_4, b5_4, a5_3, b5_3, a5_2, b5_2, a5_1, b5_1] at hr
  have n_i1' : ¬ i1 = r := fun e => n_i1 e.symm
  have d_i1 : ¬ rd = i1 := fun e => by subst e; simp [a2_1, b2_1, a3_2, b3_2, a3_1, b3_1, a4_3, b4_3, a4_2, b4_2, a4_1, b4_1, a5_4, b5_4, a5_3, b5_3, a5_2, b5_2, a5_1, b5_1] at hrd
  have d_i1' : ¬ i1 = rd := fun e => d_i1 e.symm
  have n_i2 : ¬ r = i2 := fun e => by subst e; simp [a2_1, b2_1, a3_2, b3_2, a3_1, b3_1, a4_3, b4_3, a4_2, b4_2, a4_1, b4_1, a5_4, b5_4, a5_3, b5_3, a5_2, b5_2, a5_1, b5_1] at hr
  have n_i2' : ¬ i2 = r := fun e => n_i2 e.symm
  have d_i2 : ¬ rd = i2 := fun e => by subst e; simp [a2_1, b2_1, a3_2, b3_2, a3_1, b3_1, a4_3, b4_3, a4_2, b4_2, a4_1, b4_1, a5_4, b5_4, a5_3, b5_3, a5_2, b5_2, a5_1, b5_1] at hrd
  have d_i2' : ¬ i2 = rd := fun e => d_i2 e.symm
  have n_i3 : ¬ r = i3 := fun e => by subst e; simp [a2_1, b2_1, a3_2, b3_2, a3_1, b3_1, a4_3, b4_3, a4_2, b4_2, a4_1, b4_1, a5_4, b5_4, a5_3, b5_3, a5_2, b5_2, a5_1, b5_1] at hr
  have n_i3' : ¬ i3 = r := fun e => n_i3 e.symm
  have d_i3 : ¬ rd = i3 := fun e => by subst e; simp [a2_1, b2_1, a3_2, b3_2, a3_1, b3_1, a4_3, b4_3, a4_2, b4_2, a4_1, b4_1, a5_4, b5_4, a5_3, b5_3, a5_2, b5_2, a5_1, b5_1] at hrd
  have d_i3' : ¬ i3 = rd := fun e => d_i3 e.symm
  have n_i4 : ¬ r = i4 := fun e => by subst e; simp [a2_1, b2_1, a3_2, b3_2, a3_1, b3_1, a4_3, b4_3, a4_2, b4_2, a4_1, b4_1, a5_4, b5_4, a5_3, b5_3, a5_2, b5_2, a5_1, b5_1] at hr
  have n_i4' : ¬ i4 = r := fun e => n_i4 e.symm
  have d_i4 : ¬ rd = i4 := fun e => by subst e; simp [a2_1, b2_1, a3_2, b3_2, a3_1, b3_1, a4_3, b4_3, a4_2, b4_2, a4_1, b4_1, a5_4, b5_4, a5_3, b5_3, a5_2, b5_2, a5_1, b5_1] at hrd
  have d_i4' : ¬ i4 = rd := fun e => d_i4 e.symm
  have n_i5 : ¬ r = i5 := fun e => by subst e; simp [a2_1, b2_1, a3_2, b3_2, a3_1, b3_1, a4_3, b4_3, a4_2, b4_2, a4_1, b4_1, a5_4, b5_4, a5_3, b5_3, a5_2, b5_2, a5_1, b5_1] at hr
  have n_i5' : ¬ i5 = r := fun e => n_i5 e.symm
  have d_i5 : ¬ rd = i5 := fun e => by subst e; simp [a2_1, b2_1, a3_2, b3_2, a3_1, b3_1, a4_3, b4_3, a4_2, b4_2, a4_1, b4_1, a5_4, b5_4, a5_3, b5_3, a5_2, b5_2, a5_1, b5_1] at hrd
  have d_i5' : ¬ i5 = rd := fun e => d_i5 e.symm
  have hne' : ¬ rd = r := fun e => hne e.symm
  rw [hTr, tbR_r, if_pos rfl]
  refine ⟨.mk k t s m kids, i5, rfl, by simp [n_i5', d_i5', enc_mk], hn, ?_⟩
  rw [hL]
  refine YI_ind (roundY_mono _ _ _ _ _) (fun i hh => hh.f i2 = some (.cells [.sl EL]) ∧ hh.f i3 = some (.cells [.bool false]) ∧ hh.f i4 = some (.cells [.int .i64 (i : Int)]) ∧ hh.f r = some (.lp (.done .normal)) ∧ hh.f rd = some .dfr) _ ?_ ?_ _ 0 _ rfl (Nat.zero_le _) ⟨by simp [a2_1, b2_1, a3_2, b3_2, a3_1, b3_1, a4_3, b4_3, a4_2, b4_2, a4_1, b4_1, a5_4, b5_4, a5_3, b5_3, a5_2, b5_2, a5_1, b5_1, n_i2', d_i2'], by simp [a2_1, b2_1, a3_2, b3_2, a3_1, b3_1, a4_3, b4_3, a4_2, b4_2, a4_1, b4_1, a5_4, b5_4, a5_3, b5_3, a5_2, b5_2, a5_1, b5_1, n_i3', d_i3'], by simp [a2_1, b2_1, a3_2, b3_2, a3_1, b3_1, a4_3, b4_3, a4_2, b4_2, a4_1, b4_1, a5_4, b5_4, a5_3, b5_3, a5_2, b5_2, a5_1, b5_1, n_i4', d_i4'], by simp, by simp [hne']⟩
  · rintro i x hh hx ⟨v2, v3, v4, v5, v6⟩
    rw [round2]
    refine ⟨v5, ?_⟩
    have hxc : x.cnt ≤ 100000000 := by
      have := cnt_mem (.mk k t s m kids) x (by rw [hL]; exact List.mem_of_getElem? hx)
      omega
    have hil : i < L.length := (List.getElem?_eq_some_iff.1 hx).1
    have wi : IntKind.i64.wrap ((i : Int) + 1) = ((i + 1 : Nat) : Int) := wrap_succ (by omega)
    have g1 : ((i : Int) ≥ (EL.length : Int)) = False := eq_false (by omega)
    have g2 : (decide ((i : Int) ≥ (EL.length : Int))) = false := by simp [g1]
    have q1n : q23n [.agg x.enc] = some (.agg x.enc) := qN_eq (by simp; omega)
    have q2n : q19n [.agg x.enc, .agg x.enc] = some (.bool true) := by rw [q19n_eq (by omega), sameN_self]
    have hx5 := len_enc x
    have hac : ∀ (K : D → AHeap → Prop) (h : AHeap), askE 5 K h EL (i : Int) = K (.eptr x.enc 0) h := fun K h => by rw [← hE]; exact askE_encs hx
    have hpx := part_enc x
    have ee : ((i : Int) != (i : Int)) = false := by simp
    clear hx hxc
    obtain ⟨xk, xt, xs, xm, xl⟩ := x
    rw [enc_mk] at *
    simp (config := {maxSteps := 1000000}) only [v2, v3, v4, v5, v6, asgK_normal, tbR_e, tb46r_e, tb41n_e, tbLp_e, tb12n_e, tbRt_e, tb23n_e, i_callNe, Int.natCast_nonneg, Nat.le_refl, Int.le_refl, List.take_succ_cons, List.take_zero, decide_true, decide_false, Bool.and_false, Bool.false_and, zz, zzN, zzF, zzD, zzM, cond_true, cond_false, ↓reduceIte, Nat.reduceEqDiff, Nat.reduceBEq, Int.reduceLT, Int.reduceLE, Int.reduceToNat, Int.reduceEq, Int.reduceAdd, Int.reduceSub, Int.reduceMul, Int.reduceNeg, Nat.reduceMul, Nat.reduceSub, Nat.reduceLeDiff, Nat.reduceLT, Int.reduceGT, Int.reduceGE, Int.reduceBEq, Int.reduceBNe, reduceCtorEq, Nat.reduceAdd]
    intro i7 f7
    have m_i2 : ¬ i7 = i2 := fun e => by subst e; rw [v2] at f7; cases f7
    have m_i2' : ¬ i2 = i7 := fun e => m_i2 e.symm
    have m_i3 : ¬ i7 = i3 := fun e => by subst e; rw [v3] at f7; cases f7
    have m_i3' : ¬ i3 = i7 := fun e => m_i3 e.symm
    have m_i4 : ¬ i7 = i4 := fun e => by subst e; rw [v4] at f7; cases f7
    have m_i4' : ¬ i4 = i7 := fun e => m_i4 e.symm
    have m_r : ¬ i7 = r := fun e => by subst e; rw [v5] at f7; cases f7
    have m_r' : ¬ r = i7 := fun e => m_r e.symm
    have m_rd : ¬ i7 = rd := fun e => by subst e; rw [v6] at f7; cases f7
    have m_rd' : ¬ rd = i7 := fun e => m_rd e.symm
    simp (config := {maxSteps := 1000000}) only [v2, v3, v4, v5, v6, wi, g1, g2, ee, q1n, q2n, hac, hpx, m_i2, m_i2', m_i3, m_i3', m_i4, m_i4', m_r, m_r', m_rd, m_rd', n_i1, n_i1', d_i1, d_i1', n_i2, n_i2', d_i2, d_i2', n_i3, n_i3', d_i3, d_i3', n_i4, n_i4', d_i4, d_i4', n_i5, n_i5', d_i5, d_i5', hne, hne', a2_1, b2_1, a3_2, b3_2, a3_1, b3_1, a4_3, b4_3, a4_2, b4_2, a4_1, b4_1, a5_4, b5_4, a5_3, b5_3, a5_2, b5_2, a5_1, b5_1, bodyK_eq, Ex.code, Option.isNone_none, AHeap.del_f, true_and, tbR_e, tb46r_e, tb41n_e, tbLp_e, tb12n_e, tbRt_e, tb23n_e, i_callNe, Int.natCast_nonneg, Nat.le_refl, Int.le_refl, List.take_succ_cons, List.take_zero, decide_true, decide_false, Bool.and_false, Bool.false_and, zz, zzN, zzF, zzD, zzM, cond_true, cond_false, ↓reduceIte, Nat.reduceEqDiff, Nat.reduceBEq, Int.reduceLT, Int.reduceLE, Int.reduceToNat, Int.reduceEq, Int.reduceAdd, Int.reduceSub, Int.reduceMul, Int.reduceNeg, Nat.reduceMul, Nat.reduceSub, Nat.reduceLeDiff, Nat.reduceLT, Int.reduceGT, Int.reduceGE, Int.reduceBEq, Int.reduceBNe, reduceCtorEq, Nat.reduceAdd]
  · rintro hh ⟨v2, v3, v4, v5, v6⟩
    refine rangeK_done v5 ?_
    have ee : ((L.length : Int) == (EL.length : Int)) = true := by simp; omega
    simp (config := {maxSteps := 1000000}) only [v2, v3, v4, v5, v6, ee, n_i1, n_i1', d_i1, d_i1', n_i2, n_i2', d_i2, d_i2', n_i3, n_i3', d_i3, d_i3', n_i4, n_i4', d_i4, d_i4', n_i5, n_i5', d_i5, d_i5', hne, hne', a2_1, b2_1, a3_2, b3_2, a3_1, b3_1, a4_3, b4_3, a4_2, b4_2, a4_1, b4_1, a5_4, b5_4, a5_3, b5_3, a5_2, b5_2, a5_1, b5_1, AHeap.del_f, retD_ret, leav_mark, leav_nil, finD, tbR_e, tb46r_e, tb41n_e, tbLp_e, tb12n_e, tbRt_e, tb23n_e, i_callNe, Int.natCast_nonneg, Nat.le_refl, Int.le_refl, List.take_succ_cons, List.take_zero, decide_true, decide_false, Bool.and_false, Bool.false_and, zz, zzN, zzF, zzD, zzM, cond_true, cond_false, ↓reduceIte, Nat.reduceEqDiff, Nat.reduceBEq, Int.reduceLT, Int.reduceLE, Int.reduceToNat, Int.reduceEq, Int.reduceAdd, Int.reduceSub, Int.reduceMul, Int.reduceNeg, Nat.reduceMul, Nat.reduceSub, Nat.reduceLeDiff, Nat.reduceLT, Int.reduceGT, Int.reduceGE, Int.reduceBEq, Int.reduceBNe, reduceCtorEq, Nat.reduceAdd]
    exact fun _ => .inr ⟨_, AHeap.sub_refl _⟩
end
end Go.Proofs.YthpgepillaeldaaDoor.Zz
/- Ranges over texts. -/
set_option linter.unusedVariables false
set_option linter.unusedSimpArgs false
namespace Go.Proofs.YthpgepillaeldaaDoor.Zz
variable {T : Tab} {h : AHeap} {K E : D → AHeap → Prop}
theorem i_isNil_nil {neg : Bool} : vcI T (.isNil neg .nilsl) h K E = K (.bool (!neg)) h := rfl
theorem i_isNil_sl {neg : Bool} {xs : List (List D)} : vcI T (.isNil neg (.sl xs)) h K E = ((xs = [] → K (.bool (!neg)) h) ∧ K (.bool neg) h) := rfl
theorem i_isNil_row {neg : Bool} {a b c d : Nat} : vcI T (.isNil neg (.row a b c d)) h K E = K (.bool neg) h := rfl
theorem i_assert {t t' : TypeId} {ok : Bool} {z d : D} : vcI T (.typeAssert t ok z (.iface t' d)) h K E = (t' = t ∧ K (bif ok then .tuple [d, .bool true] else d) h) := rfl
theorem i_srange {s : List UInt8} : vcI T (.srange (.str s)) h K E = ∀ id, h.f id = none → K (.iter id) (h.set id (.siter s 0)) := rfl
def snx (id : Nat) (h : AHeap) (K : D → AHeap → Prop) : Option AObj → Prop
  | some (.siter s pos) => (pos < s.length → K (.tuple [.bool true, .int .i64 (pos : Int), .int .i32 ((Utf8.decode ⟨s.toArray⟩ pos).1 : Int)]) (h.set id (.siter s (pos + (Utf8.decode ⟨s.toArray⟩ pos).2)))) ∧ (s.length ≤ pos → K (.tuple [.bool false]) h)
  | _ => False
theorem i_snext {id : Nat} : vcI T (.snext (.iter id)) h K E = snx id h K (h.f id) := by
  show (match h.f id with | some (.siter s pos) => _ | _ => False) = _
  generalize h.f id = o
  cases o with
  | none => rfl
  | some o => cases o <;> rfl
theorem snx_siter {id : Nat} {s : List UInt8} {pos : Nat} : snx id h K (some (.siter s pos)) = ((pos < s.length → K (.tuple [.bool true, .int .i64 (pos : Int), .int .i32 ((Utf8.decode ⟨s.toArray⟩ pos).1 : Int)]) (h.set id (.siter s (pos + (Utf8.decode ⟨s.toArray⟩ pos).2)))) ∧ (s.length ≤ pos → K (.tuple [.bool false]) h)) := rfl
/-- One byte that is a rune of its own. -/
theorem decode_one {s : List UInt8} {pos : Nat} {c : UInt8} (hc : s[pos]? = some c) (h7 : c < 128) : Utf8.decode ⟨s.toArray⟩ pos = (c.toNat, 1) := by
  have hlt : pos < s.length := (List.getElem?_eq_some_iff.1 hc).1
  have e : (⟨s.toArray⟩ : ByteArray)[pos]'(by simpa [ByteArray.size] using hlt) = c := by
    have : s[pos] = c := (List.getElem?_eq_some_iff.1 hc).2
    exact this
  rw [decode_ascii (⟨s.toArray⟩ : ByteArray) pos (by simpa [ByteArray.size] using hlt) (by rw [e]; exact UInt8.lt_iff_toNat_lt.1 h7), e]
end Go.Proofs.YthpgepillaeldaaDoor.Zz
/- Contracts: a tree with another node at a place. -/
namespace Go.Proofs.YthpgepillaeldaaDoor.Zz
noncomputable section
set_option linter.unusedVariables false
set_option linter.unusedSimpArgs false
set_option maxRecDepth 20000
def p24n : Plan := ⟨⟨[], [(4, 2)], [(12, 9)], [], [], []⟩, [(12, [0, 1, 2, 3, 4, 5, 6, 7, 8, 9, 10])], [], false⟩
/-- cupel/ast.Replace (3 parameters, 0 captured) -/
def s24n : Stm :=
  .seq (.ops [⟨.box (.t 0), (some 3), none, false⟩,
     ⟨.box (.t 2), (some 5), none, false⟩,
     ⟨.alloc [(.int .i64 0), (.int .i64 0), (.str []), (.int .i64 0), .nilsl], (some 6), none, false⟩])
  (.seq (.seq (.ops [⟨.mov (.t 1), (some 12), none, true⟩,
      ⟨.bin .eql (.t 12) (.c (.int .i64 0)), (some 13), none, true⟩])
   (.cond (.t 13)
    (.seq (.ops [⟨.load (some 5) (.t 5), (some 14), none, false⟩,
        ⟨.store 5 (.t 6) (.t 14), none, none, false⟩])
     (.ret))
    (.skip)))
  (.seq (.ops [⟨.load (some 5) (.t 3), (some 15), none, false⟩,
     ⟨.alloc [(.int .i64 0), (.int .i64 0), (.str []), (.int .i64 0), .nilsl], (some 7), none, false⟩,
     ⟨.store 5 (.t 7) (.t 15), none, none, false⟩])
  (.seq (.ops [⟨.fieldAddr 4 (.t 3), (some 16), none, true⟩,
     ⟨.load none (.t 16), (some 17), none, false⟩,
     ⟨.call (.f 47) [(.t 17)], (some 18), none, false⟩,
     ⟨.fieldAddr 4 (.t 7), (some 19), none, true⟩,
     ⟨.store 1 (.t 19) (.t 18), none, none, false⟩])
  (.seq (.ops [⟨.mov (.c (.int .i64 1)), (some 8), none, true⟩])
  (.seq (.seq (.ops [⟨.fieldAddr 4 (.t 3), (some 20), none, true⟩,
      ⟨.load none (.t 20), (some 21), none, false⟩,
      ⟨.len .sl (.t 21), (some 22), none, false⟩,
      ⟨.mov (.c (.int .i64 0)), (some 23), none, true⟩])
   (.block 0 (.loop (.seq (.ops [⟨.bin .lss (.t 23) (.t 22), (some 24), none, true⟩])
     (.seq (.cond (.t 24)
       (.skip)
       (.exit 0))
     (.seq (.block 1 (.seq (.ops [⟨.mov (.t 23), (some 25), none, true⟩,
          ⟨.indexAddrS 5 (.t 21) (.t 23), (some 26), none, false⟩,
          ⟨.load (some 5) (.t 26), (some 27), none, false⟩,
          ⟨.alloc [(.int .i64 0), (.int .i64 0), (.str []), (.int .i64 0), .nilsl], (some 10), none, false⟩,
          ⟨.mov (.t 25), (some 9), none, true⟩,
          ⟨.store 5 (.t 10) (.t 27), none, none, false⟩])
       (.seq (.ops [⟨.load (some 5) (.t 10), (some 28), none, false⟩,
          ⟨.qcall (.f 14) [(.t 28)], (some 29), none, false⟩,
          ⟨.mov (.t 29), (some 11), none, true⟩])
       (.seq (.seq (.ops [⟨.mov (.t 1), (some 30), none, true⟩,
           ⟨.mov (.t 8), (some 31), none, true⟩,
           ⟨.mov (.t 11), (some 32), none, true⟩,
           ⟨.bin .add (.t 31) (.t 32), (some 33), none, true⟩,
           ⟨.bin .lss (.t 30) (.t 33), (some 34), none, true⟩])
        (.cond (.t 34)
         (.seq (.seq (.ops [⟨.mov (.t 1), (some 35), none, true⟩,
              ⟨.mov (.t 8), (some 36), none, true⟩,
              ⟨.bin .geq (.t 35) (.t 36), (some 37), none, true⟩])
           (.cond (.t 37)
            (.opsD [⟨.fieldAddr 4 (.t 7), (some 38), none, true⟩,
               ⟨.load none (.t 38), (some 39), none, false⟩,
               ⟨.mov (.t 9), (some 40), none, true⟩,
               ⟨.load (some 5) (.t 10), (some 41), none, false⟩,
               ⟨.mov (.t 1), (some 42), none, true⟩,
               ⟨.mov (.t 8), (some 43), none, true⟩,
               ⟨.bin .sub (.t 42) (.t 43), (some 44), none, true⟩,
               ⟨.load (some 5) (.t 5), (some 45), none, false⟩,
               ⟨.qcall (.f 24) [(.t 41), (.t 44), (.t 45)], (some 46), none, false⟩,
               ⟨.indexAddrS 5 (.t 39) (.t 40), (some 47), none, false⟩,
               ⟨.store 5 (.t 47) (.t 46), none, none, false⟩])
            (.skip)))
          (.exit 0))
         (.skip)))
       (.ops [⟨.mov (.t 8), (some 48), none, true⟩,
         ⟨.mov (.t 11), (some 49), none, true⟩,
         ⟨.bin .add (.t 48) (.t 49), (some 50), none, true⟩,
         ⟨.mov (.t 50), (some 8), none, true⟩])))))
     (.ops [⟨.bin .add (.t 23) (.c (.int .i64 1)), (some 51), none, true⟩,
       ⟨.mov (.t 51), (some 23), none, true⟩])))))))
  (.seq (.ops [⟨.load (some 5) (.t 7), (some 52), none, false⟩,
     ⟨.store 5 (.t 6) (.t 52), none, none, false⟩])
  (.ret)))))))
theorem st24n : stmOf Tryd.prog 24 p24n = some (s24n, [.cell 6 (some 5)], 53) := by kernel_rfl

def p47n : Plan := ⟨⟨[(3, 0)], [], [], [], [], []⟩, [], [], false⟩
/-- slices.Clone[[]cupel/api.Node,cupel/api.Node] (1 parameters, 0 captured) -/
def s47n : Stm :=
  .seq (.ops [⟨.mov (.c .nilsl), (some 2), none, true⟩])
  (.seq (.seq (.ops [⟨.mov (.t 0), (some 3), none, true⟩,
      ⟨.isNil false (.t 3), (some 4), none, false⟩])
   (.cond (.t 4)
    (.seq (.ops [⟨.mov (.c .nilsl), (some 2), none, true⟩])
     (.ret))
    (.skip)))
  (.seq (.ops [⟨.buildSlice 5 [(.int .i64 0), (.int .i64 0), (.str []), (.int .i64 0), .nilsl] 0 [] true, (some 5), none, false⟩,
     ⟨.mov (.t 0), (some 6), none, true⟩,
     ⟨.append 5 64 false (.t 5) (.t 6), (some 7), none, false⟩,
     ⟨.mov (.t 7), (some 2), none, true⟩])
  (.ret)))
theorem st47n : stmOf Tryd.prog 47 p47n = some (s47n, [.tmp 2], 8) := by kernel_rfl

theorem cloneS_c (xs : List (List D)) (hx : ∀ y ∈ xs, y.length = 5 ∧ y.all cellOk = true) (hl : xs.length * 64 ≤ 140737488355328) (h : AHeap) : ACalls Tryd.prog 47 [.sl xs] h fun o h' => ∃ d, o = .ret d ∧ ((xs = [] ∧ d = .nilsl ∧ h' = h) ∨ ∃ id, h.f id = none ∧ d = .row id (xs.length + 2) 0 xs.length ∧ h' = h.set id (.row 5 (xs.length + 2) xs false)) := by
  refine ACalls.run (Tab.zero_ok _) st47n (by simp) fun E => ?_
  simp (config := {maxSteps := 1000000}) only [s47n, i_isNil_sl, i_callNe, Int.natCast_nonneg, Nat.le_refl, Int.le_refl, List.take_succ_cons, List.take_zero, decide_true, decide_false, Bool.and_false, Bool.false_and, zz, zzN, zzF, zzD, zzM, cond_true, cond_false, ↓reduceIte, Nat.reduceEqDiff, Nat.reduceBEq, Int.reduceLT, Int.reduceLE, Int.reduceToNat, Int.reduceEq, Int.reduceAdd, Int.reduceSub, Int.reduceMul, Int.reduceNeg, Nat.reduceMul, Nat.reduceSub, Nat.reduceLeDiff, Nat.reduceLT, Int.reduceGT, Int.reduceGE, Int.reduceBEq, Int.reduceBNe, reduceCtorEq, Nat.reduceAdd]
  refine ⟨fun h0 => ?_, ?_⟩
  · simp (config := {maxSteps := 1000000}) only [h0, i_callNe, Int.natCast_nonneg, Nat.le_refl, Int.le_refl, List.take_succ_cons, List.take_zero, decide_true, decide_false, Bool.and_false, Bool.false_and, zz, zzN, zzF, zzD, zzM, cond_true, cond_false, ↓reduceIte, Nat.reduceEqDiff, Nat.reduceBEq, Int.reduceLT, Int.reduceLE, Int.reduceToNat, Int.reduceEq, Int.reduceAdd, Int.reduceSub, Int.reduceMul, Int.reduceNeg, Nat.reduceMul, Nat.reduceSub, Nat.reduceLeDiff, Nat.reduceLT, Int.reduceGT, Int.reduceGE, Int.reduceBEq, Int.reduceBNe, reduceCtorEq, Nat.reduceAdd]
  · intro id hid
    refine ⟨hx, hl, .inr ⟨id, hid, ?_, ?_⟩⟩ <;> rw [Nat.add_comm]
def c47n (args : List D) (h : AHeap) (K : D → AHeap → Prop) : Prop :=
  ∃ l : List Nd, args = [.sl (Nd.encs l)] ∧ l.length ≤ 1000000000 ∧ (l = [] → K .nilsl h) ∧ ∀ id, h.f id = none → K (.row id (l.length + 2) 0 l.length) (h.set id (.row 5 (l.length + 2) (Nd.encs l) false))
theorem c47n_mono (args : List D) (h : AHeap) (K K' : D → AHeap → Prop) (hk : ∀ d h, K d h → K' d h) (c : c47n args h K) : c47n args h K' := by
  obtain ⟨l, a, b, c, d⟩ := c
  exact ⟨l, a, b, fun e => hk _ _ (c e), fun id e => hk _ _ (d id e)⟩
theorem c47n_ok (args : List D) (h : AHeap) (K : D → AHeap → Prop) (c : c47n args h K) : ACalls Tryd.prog 47 args h fun o h' => ∃ d, o = .ret d ∧ K d h' := by
  obtain ⟨l, rfl, b, c, d⟩ := c
  refine (cloneS_c (Nd.encs l) (fun y hy => ?_) (by rw [len_encs]; omega) h).mono fun o h' ⟨d', hE1, hE2⟩ => ⟨d', hE1, ?_⟩
  · rw [encs_map] at hy
    obtain ⟨x, _, hx⟩ := List.mem_map.1 hy
    subst hx
    exact ⟨len_enc x, enc_ok x⟩
  · rcases hE2 with ⟨e1, e2, e3⟩ | ⟨id, e1, e2, e3⟩
    · rw [e2, e3]
      refine c ?_
      cases l with
      | nil => rfl
      | cons x l => rw [encs_cons] at e1; cases e1
    · rw [e2, e3, len_encs]
      exact d id e1
def tb47n : Tab := tb14n.addW 47 c47n c47n_mono
theorem tb47n_q : tb47n.q = tb14n.q := rfl
theorem tb47n_a : tb47n.a = tb14n.a := rfl
theorem tb47n_c (g : FuncId) (args : List D) (h : AHeap) (K E : D → AHeap → Prop) : tb47n.c g args h K E = if g = 47 then c47n args h K else tb14n.c g args h K E := rfl
theorem tb47n_ok : tb47n.ok Tryd.prog := Tab.addW_ok tb14n_ok c47n_ok
theorem tb47n_e : type_of% (And.intro (And.intro @tb47n_q (And.intro @tb47n_a @tb47n_c)) @tb14n_e) := (And.intro (And.intro @tb47n_q (And.intro @tb47n_a @tb47n_c)) @tb14n_e)

theorem replFs_low (b : Nd) : ∀ (l : List Nd) (a p : Int), p < a → replFs b l a p = l
  | [], a, p, h => by rw [replFs_nil]
  | x :: l, a, p, h => by rw [replFs_cons, if_neg (by omega), replFs_low b l _ _ (by omega)]
theorem replFs_hit (b : Nd) {x : Nd} {l : List Nd} {a p : Int} (h1 : a ≤ p) (h2 : p < a + x.cnt) : replFs b (x :: l) a p = replF b x (p - a) :: l := by
  rw [replFs_cons, if_pos ⟨h1, h2⟩, replFs_low b l _ _ h2]
theorem replFs_past (b : Nd) {x : Nd} {l : List Nd} {a p : Int} (h2 : ¬ p < a + x.cnt) : replFs b (x :: l) a p = x :: replFs b l (a + x.cnt) p := by
  rw [replFs_cons, if_neg (fun e => h2 e.2)]
def q24f (f : Nat) : List D → Option D := q25f f
set_option maxHeartbeats 1000000 in
theorem repl_step (f : Nat) (hf : f < 1000000000) (hT : (tb47n.addQ 24 (q24f f)).ok Tryd.prog) (n b : Nd) (p : Int) (hn : n.cnt < f + 1) (hp : -9223372036854775808 ≤ p ∧ p ≤ 9223372036854775807) : PCall Tryd.prog 24 [.agg n.enc, .int .i64 p, .agg b.enc] (.agg (replF b n p).enc) := by
  refine PCall.run hT st24n (by simp) fun E => ?_
  have hT_q : ∀ g args, (tb47n.addQ 24 (q24f f)).q g args = if g = 24 then q24f f args else tb47n.q g args := fun g args => rfl
  have hT_c : (tb47n.addQ 24 (q24f f)).c = tb47n.c := rfl
  have hq : ∀ (y : Nd) (p : Int), y.cnt < f → -9223372036854775808 ≤ p → p ≤ 9223372036854775807 → q24f f [.agg y.enc, .int .i64 p, .agg b.enc] = some (.agg (replF b y p).enc) := fun y p h1 h2 h3 => by
    simp only [q24f, q25f, decN_enc]; rw [if_pos ⟨h1, h2, h3⟩]
  generalize tb47n.addQ 24 (q24f f) = TT at hT_q hT_c ⊢
  have pb := part_enc b
  obtain ⟨k, t, x, m, l⟩ := n
  have hcnt : ∀ y ∈ l, y.cnt < f := fun y hy => by have := cnt_kid (k := k) (t := t) (s := x) (n := m) hy; omega
  rw [cnt_mk] at hn
  have hln := cnts_len l
  rw [replF_mk, enc_mk]
  by_cases c0n : p = 0
  · rw [if_pos c0n]
    have g0 : (p == 0) = true := by simpa using c0n
    obtain ⟨bk, bt, bs, bn, bl⟩ := b
    rw [enc_mk] at *
    simp (config := {maxSteps := 1000000}) only [s24n, g0, hT_q, tb41n_e, tbLp_e, tb12n_e, tbRt_e, tb48n_e, tb47n_e, i_callNe, Int.natCast_nonneg, Nat.le_refl, Int.le_refl, List.take_succ_cons, List.take_zero, decide_true, decide_false, Bool.and_false, Bool.false_and, zz, zzN, zzF, zzD, zzM, cond_true, cond_false, ↓reduceIte, Nat.reduceEqDiff, Nat.reduceBEq, Int.reduceLT, Int.reduceLE, Int.reduceToNat, Int.reduceEq, Int.reduceAdd, Int.reduceSub, Int.reduceMul, Int.reduceNeg, Nat.reduceMul, Nat.reduceSub, Nat.reduceLeDiff, Nat.reduceLT, Int.reduceGT, Int.reduceGE, Int.reduceBEq, Int.reduceBNe, reduceCtorEq, Nat.reduceAdd]
    intro i3 i5 n1 n2 i6 n3 n4 n5 n6
    simp (config := {maxSteps := 1000000}) only [n1, n2, n3, n4, n5, n6, hT_q, tb41n_e, tbLp_e, tb12n_e, tbRt_e, tb48n_e, tb47n_e, i_callNe, Int.natCast_nonneg, Nat.le_refl, Int.le_refl, List.take_succ_cons, List.take_zero, decide_true, decide_false, Bool.and_false, Bool.false_and, zz, zzN, zzF, zzD, zzM, cond_true, cond_false, ↓reduceIte, Nat.reduceEqDiff, Nat.reduceBEq, Int.reduceLT, Int.reduceLE, Int.reduceToNat, Int.reduceEq, Int.reduceAdd, Int.reduceSub, Int.reduceMul, Int.reduceNeg, Nat.reduceMul, Nat.reduceSub, Nat.reduceLeDiff, Nat.reduceLT, Int.reduceGT, Int.reduceGE, Int.reduceBEq, Int.reduceBNe, reduceCtorEq, Nat.reduceAdd]
  · rw [if_neg c0n, enc_mk]
    have g0 : (p == 0) = false := by simpa using c0n
    obtain ⟨bk, bt, bs, bn, bl⟩ := b
    generalize hR : replFs (Nd.mk bk bt bs bn bl) = R at *
    have hlow := replFs_low (Nd.mk bk bt bs bn bl)
    have hhit := fun {x : Nd} {l : List Nd} {a p : Int} => @replFs_hit (Nd.mk bk bt bs bn bl) x l a p
    have hpast := fun {x : Nd} {l : List Nd} {a p : Int} => @replFs_past (Nd.mk bk bt bs bn bl) x l a p
    rw [hR] at hlow hhit hpast
    rw [enc_mk] at *
    simp (config := {maxSteps := 1000000}) only [s24n, g0, hT_q, hT_c, tb41n_e, tbLp_e, tb12n_e, tbRt_e, tb48n_e, tb47n_e, i_callNe, Int.natCast_nonneg, Nat.le_refl, Int.le_refl, List.take_succ_cons, List.take_zero, decide_true, decide_false, Bool.and_false, Bool.false_and, zz, zzN, zzF, zzD, zzM, cond_true, cond_false, ↓reduceIte, Nat.reduceEqDiff, Nat.reduceBEq, Int.reduceLT, Int.reduceLE, Int.reduceToNat, Int.reduceEq, Int.reduceAdd, Int.reduceSub, Int.reduceMul, Int.reduceNeg, Nat.reduceMul, Nat.reduceSub, Nat.reduceLeDiff, Nat.reduceLT, Int.reduceGT, Int.reduceGE, Int.reduceBEq, Int.reduceBNe, reduceCtorEq, Nat.reduceAdd]
    intro i3 i5 n1 n2 i6 n3 n4 n5 n6
    simp (config := {maxSteps := 1000000}) only [n1, n2, n3, n4, n5, n6, hT_q, hT_c, tb41n_e, tbLp_e, tb12n_e, tbRt_e, tb48n_e, tb47n_e, i_callNe, Int.natCast_nonneg, Nat.le_refl, Int.le_refl, List.take_succ_cons, List.take_zero, decide_true, decide_false, Bool.and_false, Bool.false_and, zz, zzN, zzF, zzD, zzM, cond_true, cond_false, ↓reduceIte, Nat.reduceEqDiff, Nat.reduceBEq, Int.reduceLT, Int.reduceLE, Int.reduceToNat, Int.reduceEq, Int.reduceAdd, Int.reduceSub, Int.reduceMul, Int.reduceNeg, Nat.reduceMul, Nat.reduceSub, Nat.reduceLeDiff, Nat.reduceLT, Int.reduceGT, Int.reduceGE, Int.reduceBEq, Int.reduceBNe, reduceCtorEq, Nat.reduceAdd]
    intro i7 m1 m2 m3 m4 m5 m6
    simp (config := {maxSteps := 1000000}) only [n1, n2, n3, n4, n5, n6, m1, m2, m3, m4, m5, m6, hT_q, hT_c, tb41n_e, tbLp_e, tb12n_e, tbRt_e, tb48n_e, tb47n_e, i_callNe, Int.natCast_nonneg, Nat.le_refl, Int.le_refl, List.take_succ_cons, List.take_zero, decide_true, decide_false, Bool.and_false, Bool.false_and, zz, zzN, zzF, zzD, zzM, cond_true, cond_false, ↓reduceIte, Nat.reduceEqDiff, Nat.reduceBEq, Int.reduceLT, Int.reduceLE, Int.reduceToNat, Int.reduceEq, Int.reduceAdd, Int.reduceSub, Int.reduceMul, Int.reduceNeg, Nat.reduceMul, Nat.reduceSub, Nat.reduceLeDiff, Nat.reduceLT, Int.reduceGT, Int.reduceGE, Int.reduceBEq, Int.reduceBNe, reduceCtorEq, Nat.reduceAdd]
    refine ⟨l, rfl, by omega, fun hl0 => ?_, fun r hr => ?_⟩
    · subst hl0
      have hR0 : R [] 1 p = [] := by rw [← hR, replFs_nil]
      simp (config := {maxSteps := 1000000}) only [n1, n2, n3, n4, n5, n6, m1, m2, m3, m4, m5, m6, encs_nil, hR0, hT_q, hT_c, tb41n_e, tbLp_e, tb12n_e, tbRt_e, tb48n_e, tb47n_e, i_callNe, Int.natCast_nonneg, Nat.le_refl, Int.le_refl, List.take_succ_cons, List.take_zero, decide_true, decide_false, Bool.and_false, Bool.false_and, zz, zzN, zzF, zzD, zzM, cond_true, cond_false, ↓reduceIte, Nat.reduceEqDiff, Nat.reduceBEq, Int.reduceLT, Int.reduceLE, Int.reduceToNat, Int.reduceEq, Int.reduceAdd, Int.reduceSub, Int.reduceMul, Int.reduceNeg, Nat.reduceMul, Nat.reduceSub, Nat.reduceLeDiff, Nat.reduceLT, Int.reduceGT, Int.reduceGE, Int.reduceBEq, Int.reduceBNe, reduceCtorEq, Nat.reduceAdd]
      refine run_loop (X := Unit) (fun z => [(3, .ptr i3 1 0), (6, .ptr i6 1 0), (7, .ptr i7 1 0), (22, .int .i64 0), (23, .int .i64 0)]) (fun z => _) (fun z => 0) (fun z => True) () trivial (by simp only [i_callNe, Int.natCast_nonneg, Nat.le_refl, Int.le_refl, List.take_succ_cons, List.take_zero, decide_true, decide_false, Bool.and_false, Bool.false_and, zz, zzN, zzF, zzD, zzM, cond_true, cond_false, ↓reduceIte, Nat.reduceEqDiff, Nat.reduceBEq, Int.reduceLT, Int.reduceLE, Int.reduceToNat, Int.reduceEq, Int.reduceAdd, Int.reduceSub, Int.reduceMul, Int.reduceNeg, Nat.reduceMul, Nat.reduceSub, Nat.reduceLeDiff, Nat.reduceLT, Int.reduceGT, Int.reduceGE, Int.reduceBEq, Int.reduceBNe, reduceCtorEq, Nat.reduceAdd]) (AHeap.sub_refl _) ?_
      rintro u Q _ hQ
      simp (config := {maxSteps := 1000000}) only [n1, n2, n3, n4, n5, n6, m1, m2, m3, m4, m5, m6, encs_nil, hR0, hT_q, hT_c, tb41n_e, tbLp_e, tb12n_e, tbRt_e, tb48n_e, tb47n_e, i_callNe, Int.natCast_nonneg, Nat.le_refl, Int.le_refl, List.take_succ_cons, List.take_zero, decide_true, decide_false, Bool.and_false, Bool.false_and, zz, zzN, zzF, zzD, zzM, cond_true, cond_false, ↓reduceIte, Nat.reduceEqDiff, Nat.reduceBEq, Int.reduceLT, Int.reduceLE, Int.reduceToNat, Int.reduceEq, Int.reduceAdd, Int.reduceSub, Int.reduceMul, Int.reduceNeg, Nat.reduceMul, Nat.reduceSub, Nat.reduceLeDiff, Nat.reduceLT, Int.reduceGT, Int.reduceGE, Int.reduceBEq, Int.reduceBNe, reduceCtorEq, Nat.reduceAdd]
    · have f3 : ¬ r = i3 := fun e => by subst e; simp [n1, n2, n3, n4, n5, n6, m1, m2, m3, m4, m5, m6] at hr
      have f5 : ¬ r = i5 := fun e => by subst e; simp [n1, n2, n3, n4, n5, n6, m1, m2, m3, m4, m5, m6] at hr
      have f6 : ¬ r = i6 := fun e => by subst e; simp [n1, n2, n3, n4, n5, n6, m1, m2, m3, m4, m5, m6] at hr
      have f7 : ¬ r = i7 := fun e => by subst e; simp [n1, n2, n3, n4, n5, n6, m1, m2, m3, m4, m5, m6] at hr
      have f3' : ¬ i3 = r := fun e => f3 e.symm
      have f5' : ¬ i5 = r := fun e => f5 e.symm
      have f6' : ¬ i6 = r := fun e => f6 e.symm
      have f7' : ¬ i7 = r := fun e => f7 e.symm
      simp (config := {maxSteps := 1000000}) only [n1, n2, n3, n4, n5, n6, m1, m2, m3, m4, m5, m6, f3, f5, f6, f7, f3', f5', f6', f7', hT_q, hT_c, tb41n_e, tbLp_e, tb12n_e, tbRt_e, tb48n_e, tb47n_e, i_callNe, Int.natCast_nonneg, Nat.le_refl, Int.le_refl, List.take_succ_cons, List.take_zero, decide_true, decide_false, Bool.and_false, Bool.false_and, zz, zzN, zzF, zzD, zzM, cond_true, cond_false, ↓reduceIte, Nat.reduceEqDiff, Nat.reduceBEq, Int.reduceLT, Int.reduceLE, Int.reduceToNat, Int.reduceEq, Int.reduceAdd, Int.reduceSub, Int.reduceMul, Int.reduceNeg, Nat.reduceMul, Nat.reduceSub, Nat.reduceLeDiff, Nat.reduceLT, Int.reduceGT, Int.reduceGE, Int.reduceBEq, Int.reduceBNe, reduceCtorEq, Nat.reduceAdd]
      intro _
      refine run_loop (X := Nat × AHeap) (fun z => [(1, .int .i64 p), (3, .ptr i3 1 0), (5, .ptr i5 1 0), (6, .ptr i6 1 0), (7, .ptr i7 1 0), (8, .int .i64 (1 + Nd.cnts (l.take z.1) : Nat)), (21, .sl (Nd.encs l)), (22, .int .i64 l.length), (23, .int .i64 z.1)]) (fun z => z.2) (fun z => l.length - z.1)
        (fun z => z.1 ≤ l.length ∧ z.2.f i3 = some (.cells [.int .i64 k, .int .i64 t, .str x, .int .i64 m, .sl (Nd.encs l)]) ∧ z.2.f i5 = some (.cells [.int .i64 bk, .int .i64 bt, .str bs, .int .i64 bn, .sl (Nd.encs bl)]) ∧ z.2.f i6 = some (.cells [.int .i64 0, .int .i64 0, .str [], .int .i64 0, .nilsl]) ∧
          z.2.f i7 = some (.cells [.int .i64 k, .int .i64 t, .str x, .int .i64 m, .row r (l.length + 2) 0 l.length]) ∧ z.2.f r = some (.row 5 (l.length + 2) (Nd.encs l) false) ∧ R l 1 p = l.take z.1 ++ R (l.drop z.1) ((1 + Nd.cnts (l.take z.1) : Nat) : Int) p) (0, _) ⟨Nat.zero_le _, ?_, ?_, ?_, ?_, ?_, ?_⟩ ?_ (AHeap.sub_refl _) ?_
      · simp only [AHeap.set_f, n1, n2, n3, n4, n5, n6, m1, m2, m3, m4, m5, m6, f3', ↓reduceIte]
      · simp only [AHeap.set_f, n1, n2, n3, n4, n5, n6, m1, m2, m3, m4, m5, m6, f5', ↓reduceIte]
      · simp only [AHeap.set_f, n1, n2, n3, n4, n5, n6, m1, m2, m3, m4, m5, m6, f6', ↓reduceIte]
      · simp only [AHeap.set_f, n1, n2, n3, n4, n5, n6, m1, m2, m3, m4, m5, m6, f7', ↓reduceIte]
      · simp only [AHeap.set_f, f7, ↓reduceIte]
      · simp only [List.take_zero, List.drop_zero, List.nil_append, cnts_nil]; rfl
      · simp only [List.take_zero, cnts_nil, len_encs, i_callNe, Int.natCast_nonneg, Nat.le_refl, Int.le_refl, List.take_succ_cons, List.take_zero, decide_true, decide_false, Bool.and_false, Bool.false_and, zz, zzN, zzF, zzD, zzM, cond_true, cond_false, ↓reduceIte, Nat.reduceEqDiff, Nat.reduceBEq, Int.reduceLT, Int.reduceLE, Int.reduceToNat, Int.reduceEq, Int.reduceAdd, Int.reduceSub, Int.reduceMul, Int.reduceNeg, Nat.reduceMul, Nat.reduceSub, Nat.reduceLeDiff, Nat.reduceLT, Int.reduceGT, Int.reduceGE, Int.reduceBEq, Int.reduceBNe, reduceCtorEq, Nat.reduceAdd]
      rintro ⟨i, hh⟩ Q ⟨j0, v3, v5, v6, v7, v8, v9⟩ hQ
      simp only at j0 v3 v5 v6 v7 v8 v9 hQ ⊢
      cases c : decide (i < l.length) with
      | false =>
        have e0 : i = l.length := by simp at c; omega
        have g : ((i : Int) < (l.length : Int)) = False := eq_false (by omega)
        have v10 : R l 1 p = l := by
          rw [v9, e0, List.take_length, List.drop_length, ← hR, replFs_nil, List.append_nil]
        simp (config := {maxSteps := 1000000}) only [g, v3, v5, v6, v7, v8, v10, n1, n2, n3, n4, n5, n6, m1, m2, m3, m4, m5, m6, f3, f5, f6, f7, f3', f5', f6', f7', len_encs, hT_q, tb41n_e, tbLp_e, tb12n_e, tbRt_e, tb48n_e, tb47n_e, i_callNe, Int.natCast_nonneg, Nat.le_refl, Int.le_refl, List.take_succ_cons, List.take_zero, decide_true, decide_false, Bool.and_false, Bool.false_and, zz, zzN, zzF, zzD, zzM, cond_true, cond_false, ↓reduceIte, Nat.reduceEqDiff, Nat.reduceBEq, Int.reduceLT, Int.reduceLE, Int.reduceToNat, Int.reduceEq, Int.reduceAdd, Int.reduceSub, Int.reduceMul, Int.reduceNeg, Nat.reduceMul, Nat.reduceSub, Nat.reduceLeDiff, Nat.reduceLT, Int.reduceGT, Int.reduceGE, Int.reduceBEq, Int.reduceBNe, reduceCtorEq, Nat.reduceAdd]
        exact List.take_of_length_le (by rw [len_encs]; omega)
      | true =>
        have c : i < l.length := by simpa using c
        obtain ⟨y, hy⟩ : ∃ y, l[i]? = some y := ⟨_, List.getElem?_eq_getElem c⟩
        have g : ((i : Int) < (l.length : Int)) = True := eq_true (by omega)
        have hym : y ∈ l := List.mem_of_getElem? hy
        have wi : IntKind.i64.wrap ((i : Int) + 1) = ((i + 1 : Nat) : Int) := wrap_succ (by omega)
        have hpy := part_enc y
        have hac : ∀ (K : D → AHeap → Prop) (h : AHeap), askE 5 K h (Nd.encs l) (i : Int) = K (.eptr y.enc 0) h := fun K h => askE_encs hy
        have hyc := hcnt y hym
        have hqk : q14n [.agg y.enc] = some (.int .i64 y.cnt) := by simp only [q14n, decN_enc]; rw [if_pos (by omega)]
        have ht := cnts_take hy
        have hle := cnts_le l (i + 1)
        have dr : l.drop i = y :: l.drop (i + 1) := by
          rw [List.drop_eq_getElem_cons c]
          congr 1
          exact (List.getElem?_eq_some_iff.1 hy).2
        have tk : l.take (i + 1) = l.take i ++ [y] := by rw [List.take_add_one, hy]; rfl
        have wc : IntKind.i64.wrap (((1 + Nd.cnts (l.take i) : Nat) : Int) + (y.cnt : Int)) = ((1 + Nd.cnts (l.take (i + 1)) : Nat) : Int) := by
          rw [wrap_add (by omega), ht, Nat.add_assoc]
        have hy5 := len_enc y
        generalize hat : 1 + Nd.cnts (l.take i) = at0 at *
        rw [dr] at v9
        have hfr : ∀ i8, hh.f i8 = none → ¬ i8 = i3 ∧ ¬ i8 = i5 ∧ ¬ i8 = i6 ∧ ¬ i8 = i7 ∧ ¬ i8 = r := fun i8 h8 => by
          refine ⟨fun e => ?_, fun e => ?_, fun e => ?_, fun e => ?_, fun e => ?_⟩
          · subst e; rw [v3] at h8; cases h8
          · subst e; rw [v5] at h8; cases h8
          · subst e; rw [v6] at h8; cases h8
          · subst e; rw [v7] at h8; cases h8
          · subst e; rw [v8] at h8; cases h8
        by_cases q2n : p < (at0 : Int) + y.cnt
        · have g2 : (p < ((1 + Nd.cnts (l.take (i + 1)) : Nat) : Int)) = True := eq_true (by omega)
          by_cases q1n : (at0 : Int) ≤ p
          · have g1 : (p ≥ (at0 : Int)) = True := eq_true q1n
            have ws : IntKind.i64.wrap (p - (at0 : Int)) = p - (at0 : Int) := wrap_i64 (by omega) (by omega)
            have hqy := hq y (p - (at0 : Int)) hyc (by omega) (by omega)
            rw [hhit q1n q2n] at v9
            generalize replF (Nd.mk bk bt bs bn bl) y (p - (at0 : Int)) = w at *
            have hw2 : (w).enc.length = 5 ∧ (w).enc.all cellOk = true := ⟨len_enc _, enc_ok _⟩
            have hgi : (Nd.encs l)[i]? = some y.enc := encs_get hy
            have hew : Nd.encs (R l 1 p) = (Nd.encs l).set i w.enc := by
              rw [v9, encs_map, encs_map, List.set_eq_take_append_cons_drop, if_pos (by simpa using c)]
              simp [List.map_drop, List.map_take]
            have hsl : ((Nd.encs l).set i w.enc).length = l.length := by rw [List.length_set, len_encs]
            have htl : ((Nd.encs l).set i w.enc).take l.length = (Nd.encs l).set i w.enc := List.take_of_length_le (by omega)
            have hei : i < (Nd.encs l).length := by rw [len_encs]; exact c
            generalize y.cnt = yc at *
            clear hym hy dr tk
            obtain ⟨yk, yt, yx, ym, yl⟩ := y
            obtain ⟨wk, wt, wx, wm, wl⟩ := w
            simp only [enc_mk] at hqy hw2 hew hgi hsl htl
            rw [enc_mk] at *
            rw [hew]
            simp (config := {maxSteps := 1000000}) only [g, g1, g2, ws, hqy, v3, v5, v6, v7, v8, hac, hpy, wi, wc, hqk, enc_unnil, len_encs, n1, n2, n3, n4, n5, n6, m1, m2, m3, m4, m5, m6, f3, f5, f6, f7, f3', f5', f6', f7', hT_q, tb41n_e, tbLp_e, tb12n_e, tbRt_e, tb48n_e, tb47n_e, i_callNe, Int.natCast_nonneg, Nat.le_refl, Int.le_refl, List.take_succ_cons, List.take_zero, decide_true, decide_false, Bool.and_false, Bool.false_and, zz, zzN, zzF, zzD, zzM, cond_true, cond_false, ↓reduceIte, Nat.reduceEqDiff, Nat.reduceBEq, Int.reduceLT, Int.reduceLE, Int.reduceToNat, Int.reduceEq, Int.reduceAdd, Int.reduceSub, Int.reduceMul, Int.reduceNeg, Nat.reduceMul, Nat.reduceSub, Nat.reduceLeDiff, Nat.reduceLT, Int.reduceGT, Int.reduceGE, Int.reduceBEq, Int.reduceBNe, reduceCtorEq, Nat.reduceAdd]
            intro i8 h8
            obtain ⟨k1, k2, k3, k4, k5⟩ := hfr i8 h8
            have k1' : ¬ i3 = i8 := fun e => k1 e.symm
            have k2' : ¬ i5 = i8 := fun e => k2 e.symm
            have k3' : ¬ i6 = i8 := fun e => k3 e.symm
            have k4' : ¬ i7 = i8 := fun e => k4 e.symm
            have k5' : ¬ r = i8 := fun e => k5 e.symm
            simp (config := {maxSteps := 1000000}) only [g, g1, g2, ws, hqy, hgi, hsl, htl, hei, v3, v5, v6, v7, v8, hac, hpy, wi, wc, hqk, enc_unnil, len_encs, n1, n2, n3, n4, n5, n6, m1, m2, m3, m4, m5, m6, f3, f5, f6, f7, f3', f5', f6', f7', k1, k2, k3, k4, k5, k1', k2', k3', k4', k5', hT_q, tb41n_e, tbLp_e, tb12n_e, tbRt_e, tb48n_e, tb47n_e, i_callNe, Int.natCast_nonneg, Nat.le_refl, Int.le_refl, List.take_succ_cons, List.take_zero, decide_true, decide_false, Bool.and_false, Bool.false_and, zz, zzN, zzF, zzD, zzM, cond_true, cond_false, ↓reduceIte, Nat.reduceEqDiff, Nat.reduceBEq, Int.reduceLT, Int.reduceLE, Int.reduceToNat, Int.reduceEq, Int.reduceAdd, Int.reduceSub, Int.reduceMul, Int.reduceNeg, Nat.reduceMul, Nat.reduceSub, Nat.reduceLeDiff, Nat.reduceLT, Int.reduceGT, Int.reduceGE, Int.reduceBEq, Int.reduceBNe, reduceCtorEq, Nat.reduceAdd]
          · have g1 : (p ≥ (at0 : Int)) = False := eq_false (by omega)
            have v10 : R l 1 p = l := by
              rw [v9, hlow _ _ _ (by omega), ← dr, List.take_append_drop]
            rw [v10]
            generalize y.cnt = yc at *
            clear hym hy dr tk
            obtain ⟨yk, yt, yx, ym, yl⟩ := y
            rw [enc_mk] at *
            simp (config := {maxSteps := 1000000}) only [g, g1, g2, v3, v5, v6, v7, v8, hac, hpy, wi, wc, hqk, enc_unnil, len_encs, n1, n2, n3, n4, n5, n6, m1, m2, m3, m4, m5, m6, f3, f5, f6, f7, f3', f5', f6', f7', hT_q, tb41n_e, tbLp_e, tb12n_e, tbRt_e, tb48n_e, tb47n_e, i_callNe, Int.natCast_nonneg, Nat.le_refl, Int.le_refl, List.take_succ_cons, List.take_zero, decide_true, decide_false, Bool.and_false, Bool.false_and, zz, zzN, zzF, zzD, zzM, cond_true, cond_false, ↓reduceIte, Nat.reduceEqDiff, Nat.reduceBEq, Int.reduceLT, Int.reduceLE, Int.reduceToNat, Int.reduceEq, Int.reduceAdd, Int.reduceSub, Int.reduceMul, Int.reduceNeg, Nat.reduceMul, Nat.reduceSub, Nat.reduceLeDiff, Nat.reduceLT, Int.reduceGT, Int.reduceGE, Int.reduceBEq, Int.reduceBNe, reduceCtorEq, Nat.reduceAdd]
            intro i8 h8
            obtain ⟨k1, k2, k3, k4, k5⟩ := hfr i8 h8
            have k1' : ¬ i3 = i8 := fun e => k1 e.symm
            have k2' : ¬ i5 = i8 := fun e => k2 e.symm
            have k3' : ¬ i6 = i8 := fun e => k3 e.symm
            have k4' : ¬ i7 = i8 := fun e => k4 e.symm
            have k5' : ¬ r = i8 := fun e => k5 e.symm
            simp (config := {maxSteps := 1000000}) only [g, g1, g2, v3, v5, v6, v7, v8, hac, hpy, wi, wc, hqk, enc_unnil, len_encs, n1, n2, n3, n4, n5, n6, m1, m2, m3, m4, m5, m6, f3, f5, f6, f7, f3', f5', f6', f7', k1, k2, k3, k4, k5, k1', k2', k3', k4', k5', hT_q, tb41n_e, tbLp_e, tb12n_e, tbRt_e, tb48n_e, tb47n_e, i_callNe, Int.natCast_nonneg, Nat.le_refl, Int.le_refl, List.take_succ_cons, List.take_zero, decide_true, decide_false, Bool.and_false, Bool.false_and, zz, zzN, zzF, zzD, zzM, cond_true, cond_false, ↓reduceIte, Nat.reduceEqDiff, Nat.reduceBEq, Int.reduceLT, Int.reduceLE, Int.reduceToNat, Int.reduceEq, Int.reduceAdd, Int.reduceSub, Int.reduceMul, Int.reduceNeg, Nat.reduceMul, Nat.reduceSub, Nat.reduceLeDiff, Nat.reduceLT, Int.reduceGT, Int.reduceGE, Int.reduceBEq, Int.reduceBNe, reduceCtorEq, Nat.reduceAdd]
            exact List.take_of_length_le (by rw [len_encs]; omega)
        · have g2 : (p < ((1 + Nd.cnts (l.take (i + 1)) : Nat) : Int)) = False := eq_false (by omega)
          have v10 : R l 1 p = l.take (i + 1) ++ R (l.drop (i + 1)) ((1 + Nd.cnts (l.take (i + 1)) : Nat) : Int) p := by
            rw [v9, hpast q2n, tk, List.append_assoc]
            congr 3
            rw [← tk]
            omega
          generalize y.cnt = yc at *
          clear hym hy dr tk
          obtain ⟨yk, yt, yx, ym, yl⟩ := y
          rw [enc_mk] at *
          simp (config := {maxSteps := 1000000}) only [g, g2, v3, v5, v6, v7, v8, hac, hpy, wi, wc, hqk, enc_unnil, len_encs, n1, n2, n3, n4, n5, n6, m1, m2, m3, m4, m5, m6, f3, f5, f6, f7, f3', f5', f6', f7', hT_q, tb41n_e, tbLp_e, tb12n_e, tbRt_e, tb48n_e, tb47n_e, i_callNe, Int.natCast_nonneg, Nat.le_refl, Int.le_refl, List.take_succ_cons, List.take_zero, decide_true, decide_false, Bool.and_false, Bool.false_and, zz, zzN, zzF, zzD, zzM, cond_true, cond_false, ↓reduceIte, Nat.reduceEqDiff, Nat.reduceBEq, Int.reduceLT, Int.reduceLE, Int.reduceToNat, Int.reduceEq, Int.reduceAdd, Int.reduceSub, Int.reduceMul, Int.reduceNeg, Nat.reduceMul, Nat.reduceSub, Nat.reduceLeDiff, Nat.reduceLT, Int.reduceGT, Int.reduceGE, Int.reduceBEq, Int.reduceBNe, reduceCtorEq, Nat.reduceAdd]
          intro i8 h8
          obtain ⟨k1, k2, k3, k4, k5⟩ := hfr i8 h8
          have k1' : ¬ i3 = i8 := fun e => k1 e.symm
          have k2' : ¬ i5 = i8 := fun e => k2 e.symm
          have k3' : ¬ i6 = i8 := fun e => k3 e.symm
          have k4' : ¬ i7 = i8 := fun e => k4 e.symm
          have k5' : ¬ r = i8 := fun e => k5 e.symm
          refine hQ (i + 1, _) _ _ ⟨c, ?_, ?_, ?_, ?_, ?_, v10⟩ (by simp only [i_callNe, Int.natCast_nonneg, Nat.le_refl, Int.le_refl, List.take_succ_cons, List.take_zero, decide_true, decide_false, Bool.and_false, Bool.false_and, zz, zzN, zzF, zzD, zzM, cond_true, cond_false, ↓reduceIte, Nat.reduceEqDiff, Nat.reduceBEq, Int.reduceLT, Int.reduceLE, Int.reduceToNat, Int.reduceEq, Int.reduceAdd, Int.reduceSub, Int.reduceMul, Int.reduceNeg, Nat.reduceMul, Nat.reduceSub, Nat.reduceLeDiff, Nat.reduceLT, Int.reduceGT, Int.reduceGE, Int.reduceBEq, Int.reduceBNe, reduceCtorEq, Nat.reduceAdd]) (AHeap.sub_refl _) (by simp only; omega)
          · simp only [AHeap.set_f, k1', v3, ↓reduceIte]
          · simp only [AHeap.set_f, k2', v5, ↓reduceIte]
          · simp only [AHeap.set_f, k3', v6, ↓reduceIte]
          · simp only [AHeap.set_f, k4', v7, ↓reduceIte]
          · simp only [AHeap.set_f, k5', v8, ↓reduceIte]
end
end Go.Proofs.YthpgepillaeldaaDoor.Zz
/- Slices of structs that came in, as plain data. -/
set_option linter.unusedVariables false
set_option linter.unusedSimpArgs false
namespace Go.Proofs.YthpgepillaeldaaDoor.Zz
open Go.RowKit

section
variable {H : Type} {enc : TypeId × Value → H} {P : Program} {w : World} {spare : Nat → Bool} {held : Bool}

theorem rows_rep {α : Type} (F : α → List D) (Q : α → Prop) {t e : TypeId} {sz : Nat} {a : Option Addr} {len cap : Nat} {d : DataW H} {ps : List MemPlace} (ht : P.underlying t = some (.slice e)) (hc : P.cellsOf e = sz) (hpos : 0 < sz) (hF : ∀ a, (F a).length = sz)
    (hq : ∀ (m : Nat) (cs : List Value) (y : DataW H × List MemPlace), DataW.trod enc P w 0 spare held m e cs = some y → ∃ a, Q a ∧ ∀ (j : Nat) (d : D), (F a)[j]? = some d → ∃ v, cs[j]? = some v ∧ Rep (old w) w v d)
    (h : DataW.Trod enc P w 0 spare held t (.slice a len cap) d ps) : ∃ l : List α, (∀ x ∈ l, Q x) ∧ Rep (old w) w (.slice a len cap) (.sl (l.map F)) := by
  obtain ⟨fuel, hf⟩ := h
  rcases DataW.trod_slice ht hf with ⟨hcs, _⟩ | ⟨ad, l, c, elems, rest, n, _, hcs, _, _, hl, hm, hlen, hx, _⟩
  · simp [Value.cells] at hcs
    obtain ⟨rfl, rfl, rfl⟩ := hcs
    exact ⟨[], by simp, .slnil (fun _ => rfl)⟩
  · simp [Value.cells] at hcs
    obtain ⟨rfl, rfl, rfl⟩ := hcs
    by_cases h0 : len = 0
    · subst h0; exact ⟨[], by simp, .slnil (fun h => by cases h)⟩
    have key : ∀ i, i < len → ∃ x, Q x ∧ ∀ (j : Nat) (d : D), (F x)[j]? = some d → ∃ v, w.cell? ((ad.add (i * sz)).add j) = some v ∧ Rep (old w) w v d := fun i hi => by
      have g := hx i hi
      rw [hc, List.getElem?_eq_getElem (by omega)] at g
      obtain ⟨cs, g1, g2⟩ := Option.bind_eq_some_iff.1 g
      obtain ⟨x, q, hr⟩ := hq _ _ _ g2
      obtain ⟨_, g3, g4⟩ := World.cells?_some g1
      refine ⟨x, q, fun j d hd => ?_⟩
      obtain ⟨v, v1, v2⟩ := hr j d hd
      have hj : j < sz := by rw [← hF x]; exact (List.getElem?_eq_some_iff.1 hd).1
      exact ⟨v, (g4 j hj).trans v1, v2⟩
    have hs : ad.spot = none := by
      obtain ⟨x, q, hr⟩ := key 0 (by omega)
      have : (F x)[0]? ≠ none := by
        rw [List.getElem?_eq_getElem (by rw [hF]; exact hpos)]; simp
      cases e : (F x)[0]? with
      | none => exact absurd e this
      | some d =>
        obtain ⟨v, v1, _⟩ := hr 0 d e
        simpa [Addr.add] using World.cell?_spot v1
    obtain ⟨b, o, sp⟩ := ad
    simp only at hs
    subst hs
    have gen : ∀ k, k ≤ len → ∃ l : List α, l.length = k ∧ (∀ x ∈ l, Q x) ∧ ∀ (i : Nat) (x : α) (j : Nat) (d : D), l[i]? = some x → (F x)[j]? = some d → ∃ v, w.cell? ⟨b, o + i * sz + j, none⟩ = some v ∧ Rep (old w) w v d := by
      intro k
      induction k with
      | zero => intro _; exact ⟨[], rfl, by simp, by simp⟩
      | succ k ih =>
        intro hk
        obtain ⟨l, h1, h2, h3⟩ := ih (by omega)
        obtain ⟨a, q, r⟩ := key k (by omega)
        refine ⟨l ++ [a], by simp [h1], ?_, ?_⟩
        · intro x hx
          rcases List.mem_append.1 hx with h | h
          · exact h2 x h
          · rw [List.mem_singleton.1 h]; exact q
        · intro i x j d hi hd
          by_cases h4 : i < l.length
          · rw [List.getElem?_append_left h4] at hi; exact h3 i x j d hi hd
          · rw [List.getElem?_append_right (by omega)] at hi
            have h5 : i = k := by
              have := (List.getElem?_eq_some_iff.1 hi).1
              simp at this; omega
            subst h5
            have h6 : i - l.length = 0 := by omega
            rw [h6] at hi
            cases hi
            obtain ⟨v, v1, v2⟩ := r j d hd
            refine ⟨v, ?_, v2⟩
            have e : ((⟨b, o, none⟩ : Addr).add (i * sz)).add j = ⟨b, o + i * sz + j, none⟩ := by
              unfold Addr.add
              split <;> split <;> simp_all
            rw [← e]; exact v1
    obtain ⟨l, h1, h2, h3⟩ := gen len (Nat.le_refl _)
    refine ⟨l, h2, ?_⟩
    have h2' : maxLen ≤ 9223372036854775807 := by decide
    have get : ∀ {i : Nat} {x : List D} {j : Nat} {d : D}, (l.map F)[i]? = some x → x[j]? = some d → ∃ v, w.cell? ⟨b, o + i * sz + j, none⟩ = some v ∧ Rep (old w) w v d := fun {i x j d} g1 g2 => by
      rw [List.getElem?_map] at g1
      cases e : l[i]? with
      | none => rw [e] at g1; cases g1
      | some y =>
        rw [e] at g1
        cases g1
        exact h3 i y j d e g2
    refine Rep.sl_of (sz := sz) (by simp [h1]) (fun i j => (w.cell? ⟨b, o + i * sz + j, none⟩).getD (.tuple #[])) (by simp; omega) (by simp; omega) (fun x hx => by
      obtain ⟨y, _, rfl⟩ := List.mem_map.1 hx
      exact hF y) (fun i x j d g1 g2 => ?_) (fun i x j d g1 g2 => ?_)
    · obtain ⟨v, v1, v2⟩ := get g1 g2
      exact ⟨cell_lt v1, by rw [v1]; rfl⟩
    · obtain ⟨v, v1, v2⟩ := get g1 g2
      rw [v1]; exact v2
end
end Go.Proofs.YthpgepillaeldaaDoor.Zz
/- Lists of rows that came in. -/
namespace Go.Proofs.YthpgepillaeldaaDoor.Zz
open Go.RowKit
set_option linter.unusedVariables false
set_option linter.unusedSimpArgs false
section
variable {H : Type} {enc : TypeId × Value → H} {P : Program} {w : World} {spare : Nat → Bool} {held : Bool}
theorem wf_i64 {n : Int} (h : (Lit.int .i64 n).wf = true) : -9223372036854775808 ≤ n ∧ n ≤ 9223372036854775807 := by
  simp [Lit.wf, IntKind.min, IntKind.max, IntKind.bits, IntKind.signed] at h
  exact h
/-- A row that came in. -/
theorem tr_cells {e : TypeId} {f0 f1 f2 f3 f4 : Field} {m : Nat} {cs : List Value} {y : DataW H × List MemPlace} (he : P.underlying e = some (.struct #[f0, f1, f2, f3, f4]))
    (h0 : P.underlying f0.type = some (.int .i64)) (h1 : P.underlying f1.type = some (.int .i64)) (h2 : P.underlying f2.type = some .string) (h3 : P.underlying f3.type = some (.int .i64)) (h4 : P.underlying f4.type = some (.int .i64))
    (c0n : P.cellsOf f0.type = 1) (c1n : P.cellsOf f1.type = 1) (c2n : P.cellsOf f2.type = 1) (c3n : P.cellsOf f3.type = 1) (c4n : P.cellsOf f4.type = 1)
    (o0 : f0.offset = 0) (o1 : f1.offset = 1) (o2 : f2.offset = 2) (o3 : f3.offset = 3) (o4 : f4.offset = 4) (hc : P.cellsOf e = 5)
    (h : DataW.trod enc P w 0 spare held m e cs = some y) : ∃ x : Tr, (-9223372036854775808 ≤ x.n ∧ x.n ≤ 9223372036854775807) ∧ cs.length = 5 ∧ ∀ (κ : Kap) (j : Nat) (d : D), (encT5 x)[j]? = some d → ∃ v, cs[j]? = some v ∧ Rep κ w v d := by
  obtain ⟨xs, n, _, _, hl, hlen, hf⟩ := DataW.trod_struct he h
  rw [hc] at hl
  have g0 := hf 0 f0 rfl
  have g1 := hf 1 f1 rfl
  have g2 := hf 2 f2 rfl
  have g3 := hf 3 f3 rfl
  have g4 := hf 4 f4 rfl
  rw [o0, c0n] at g0
  rw [o1, c1n] at g1
  rw [o2, c2n] at g2
  rw [o3, c3n] at g3
  rw [o4, c4n] at g4
  match xs, hlen with
  | [y0, y1, y2, y3, y4], _ =>
    match cs, hl with
    | [v0, v1, v2, v3, v4], _ =>
      obtain ⟨a0, e0, _, w0⟩ := DataW.trod_int h0 g0
      obtain ⟨a1, e1, _, w1⟩ := DataW.trod_int h1 g1
      obtain ⟨a2, e2, _, w2⟩ := DataW.trod_string h2 g2
      obtain ⟨a3, e3, _, w3⟩ := DataW.trod_int h3 g3
      obtain ⟨a4, e4, _, w4⟩ := DataW.trod_int h4 g4
      simp at e0 e1 e2 e3 e4
      subst e0 e1 e2 e3 e4
      refine ⟨⟨a0, a1, a2.data.toList, a3, a4⟩, wf_i64 w3, rfl, fun κ j d hd => ?_⟩
      match j, hd with
      | 0, hd => simp [encT5] at hd; subst hd; exact ⟨_, rfl, .int _ _⟩
      | 1, hd => simp [encT5] at hd; subst hd; exact ⟨_, rfl, .int _ _⟩
      | 2, hd => simp [encT5] at hd; subst hd; exact ⟨_, rfl, rep_string w2⟩
      | 3, hd => simp [encT5] at hd; subst hd; exact ⟨_, rfl, .int _ _⟩
      | 4, hd => simp [encT5] at hd; subst hd; exact ⟨_, rfl, .int _ _⟩
      | _ + 5, hd => simp [encT5] at hd
theorem trs_rep {t e : TypeId} {f0 f1 f2 f3 f4 : Field} {a : Option Addr} {len cap : Nat} {d : DataW H} {ps : List MemPlace} (ht : P.underlying t = some (.slice e)) (he : P.underlying e = some (.struct #[f0, f1, f2, f3, f4]))
    (h0 : P.underlying f0.type = some (.int .i64)) (h1 : P.underlying f1.type = some (.int .i64)) (h2 : P.underlying f2.type = some .string) (h3 : P.underlying f3.type = some (.int .i64)) (h4 : P.underlying f4.type = some (.int .i64))
    (c0n : P.cellsOf f0.type = 1) (c1n : P.cellsOf f1.type = 1) (c2n : P.cellsOf f2.type = 1) (c3n : P.cellsOf f3.type = 1) (c4n : P.cellsOf f4.type = 1)
    (o0 : f0.offset = 0) (o1 : f1.offset = 1) (o2 : f2.offset = 2) (o3 : f3.offset = 3) (o4 : f4.offset = 4) (hc : P.cellsOf e = 5)
    (h : DataW.Trod enc P w 0 spare held t (.slice a len cap) d ps) : ∃ l : List Tr, trOk l ∧ Rep (old w) w (.slice a len cap) (.sl (encTs l)) :=
  rows_rep encT5 (fun x => -9223372036854775808 ≤ x.n ∧ x.n ≤ 9223372036854775807) ht hc (by omega) (fun _ => rfl) (fun m cs y hy => by
    obtain ⟨x, q, _, r⟩ := tr_cells he h0 h1 h2 h3 h4 c0n c1n c2n c3n c4n o0 o1 o2 o3 o4 hc hy
    exact ⟨x, q, r (old w)⟩) h
end
end Go.Proofs.YthpgepillaeldaaDoor.Zz
