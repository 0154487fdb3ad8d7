/- Contracts: the node at a place; are nodes gone over by their places? -/
import Derived.Test.YthpgepillaeldaaDoorZA17
import Derived.Test.YthpgepillaeldaaDoorZA13
set_option linter.unnecessarySimpa false
namespace Go.Proofs.YthpgepillaeldaaDoor.Zz
noncomputable section
set_option linter.unusedVariables false
set_option linter.unusedSimpArgs false
set_option maxRecDepth 20000
def p21t : Plan := ⟨⟨[], [(2, 1)], [(5, 13)], [], [], []⟩, [(5, [0, 1, 2, 3, 4, 5, 6, 7, 8, 9, 10, 11, 12, 13, 14, 15, 16, 17, 18])], [], false⟩
/-- cupel/cupellaw10.places (2 parameters, 0 captured) -/
def s21t : Stm :=
  .seq (.ops [⟨.box (.t 0), (some 2), none, false⟩,
     ⟨.box (.t 1), (some 3), none, false⟩,
     ⟨.alloc [(.bool false)], (some 4), none, false⟩])
  (.seq (.ops [⟨.alloc [(.int .i64 0)], (some 5), none, false⟩,
     ⟨.store 1 (.t 5) (.c (.int .i64 0)), none, none, false⟩])
  (.seq (.seq (.ops [⟨.load (some 5) (.t 2), (some 8), none, false⟩,
      ⟨.call (.f 46) [(.t 8)], (some 9), none, false⟩])
   (.block 0 (.rangeF (.t 9) [10, 11]
     (.seq (.ops [⟨.mov (.t 10), (some 6), none, true⟩])
      (.ops [⟨.alloc [(.int .i64 0), (.int .i64 0), (.str []), (.int .i64 0), .nilsl], (some 7), none, false⟩,
        ⟨.store 5 (.t 7) (.t 11), none, none, false⟩]))
     (.block 1 (.seq (.seq (.opsD [⟨.mov (.t 6), (some 12), none, true⟩,
           ⟨.load none (.t 5), (some 13), none, false⟩,
           ⟨.bin .neq (.t 12) (.t 13), (some 14), none, true⟩,
           ⟨.mov (.t 14), (some 15), none, true⟩,
           ⟨.load none (.t 5), (some 16), (some (15, false)), false⟩,
           ⟨.load none (.t 3), (some 17), (some (15, false)), false⟩,
           ⟨.len0 .sl (.t 17), (some 18), (some (15, false)), true⟩,
           ⟨.bin .geq (.t 16) (.t 18), (some 19), (some (15, false)), true⟩,
           ⟨.pick (.t 15) (.c (.bool true)) (.t 19), (some 20), none, true⟩,
           ⟨.mov (.t 20), (some 21), none, true⟩,
           ⟨.load (some 5) (.t 7), (some 22), (some (21, false)), false⟩,
           ⟨.load none (.t 3), (some 23), (some (21, false)), false⟩,
           ⟨.load none (.t 5), (some 24), (some (21, false)), false⟩,
           ⟨.indexAddrS 5 (.t 23) (.t 24), (some 25), (some (21, false)), false⟩,
           ⟨.load (some 5) (.t 25), (some 26), (some (21, false)), false⟩,
           ⟨.qcall (.f 23) [(.t 26)], (some 27), (some (21, false)), false⟩,
           ⟨.qcall (.f 19) [(.t 22), (.t 27)], (some 28), (some (21, false)), false⟩,
           ⟨.un .not (.t 28), (some 29), (some (21, false)), true⟩,
           ⟨.pick (.t 21) (.c (.bool true)) (.t 29), (some 30), none, true⟩])
        (.cond (.t 30)
         (.seq (.ops [⟨.store 1 (.t 4) (.c (.bool false)), none, none, false⟩])
          (.ret))
         (.skip)))
       (.ops [⟨.load none (.t 5), (some 31), none, false⟩,
         ⟨.bin .add (.t 31) (.c (.int .i64 1)), (some 32), none, true⟩,
         ⟨.store 1 (.t 5) (.t 32), none, none, false⟩]))))))
  (.seq (.ops [⟨.load none (.t 5), (some 33), none, false⟩,
     ⟨.load none (.t 3), (some 34), none, false⟩,
     ⟨.len .sl (.t 34), (some 35), none, false⟩,
     ⟨.bin .eql (.t 33) (.t 35), (some 36), none, true⟩,
     ⟨.store 1 (.t 4) (.t 36), none, none, false⟩])
  (.ret))))
theorem st21t : stmOf Tryd.prog 21 p21t = some (s21t, [.cell 4 none], 37) := by kernel_rfl

def p22t : Plan := ⟨⟨[], [(1, 1)], [], [], [], []⟩, [], [], false⟩
/-- cupel/ast.At (2 parameters, 0 captured) -/
def s22t : Stm :=
  .seq (.ops [⟨.box (.t 0), (some 2), none, false⟩,
     ⟨.box (.t 1), (some 3), none, false⟩,
     ⟨.alloc [(.int .i64 0), (.int .i64 0), (.str []), (.int .i64 0), .nilsl], (some 4), none, false⟩,
     ⟨.alloc [(.bool false)], (some 5), none, false⟩])
  (.seq (.seq (.ops [⟨.load (some 5) (.t 2), (some 8), none, false⟩,
      ⟨.call (.f 46) [(.t 8)], (some 9), none, false⟩])
   (.block 0 (.rangeF (.t 9) [10, 11]
     (.seq (.ops [⟨.mov (.t 10), (some 6), none, true⟩])
      (.ops [⟨.alloc [(.int .i64 0), (.int .i64 0), (.str []), (.int .i64 0), .nilsl], (some 7), none, false⟩,
        ⟨.store 5 (.t 7) (.t 11), none, none, false⟩]))
     (.block 1 (.seq (.ops [⟨.mov (.t 6), (some 12), none, true⟩,
          ⟨.load none (.t 3), (some 13), none, false⟩,
          ⟨.bin .eql (.t 12) (.t 13), (some 14), none, true⟩])
       (.cond (.t 14)
        (.seq (.ops [⟨.load (some 5) (.t 7), (some 15), none, false⟩,
            ⟨.store 5 (.t 4) (.t 15), none, none, false⟩,
            ⟨.store 1 (.t 5) (.c (.bool true)), none, none, false⟩])
         (.ret))
        (.skip)))))))
  (.seq (.ops [⟨.build [(.int .i64 0), (.int .i64 0), (.str []), (.int .i64 0), .nilsl] [], (some 16), none, true⟩,
     ⟨.store 5 (.t 4) (.t 16), none, none, false⟩,
     ⟨.store 1 (.t 5) (.c (.bool false)), none, none, false⟩])
  (.ret)))
theorem st22t : stmOf Tryd.prog 22 p22t = some (s22t, [.cell 4 (some 5), .cell 5 none], 17) := by kernel_rfl

def zeroNd : Nd := .mk 0 0 [] 0 []
def atF (n : Nd) (p : Int) : Option Nd := if 0 ≤ p then (listF n)[p.toNat]? else none
theorem at_c (n : Nd) (p : Int) (hn : n.cnt ≤ 100000000) : PCall Tryd.prog 22 [.agg n.enc, .int .i64 p] (.tuple [.agg ((atF n p).getD zeroNd).enc, .bool (atF n p).isSome]) := by
  refine ACalls.of_stmD tbR_ok (dc := DTab.none) (fun _ _ => DTab.none_ok) (by kernel_rfl) st22t (by simp) ?_
  have hTr := tbR_r
  rw [vc_todo]
  obtain ⟨k, t, s, m, kids⟩ := n
  rw [enc_mk]
  simp (config := {maxSteps := 1000000}) only [s22t, tbR_e, retS_ret, i_callNe, Int.natCast_nonneg, Nat.le_refl, Int.le_refl, List.take_succ_cons, List.take_zero, decide_true, decide_false, Bool.and_false, Bool.false_and, zz, zzN, zzF, zzD, zzM, cond_true, cond_false, ↓reduceIte, Nat.reduceEqDiff, Nat.reduceBEq, Int.reduceLT, Int.reduceLE, Int.reduceToNat, Int.reduceEq, Int.reduceAdd, Int.reduceSub, Int.reduceMul, Int.reduceNeg, Nat.reduceMul, Nat.reduceSub, Nat.reduceLeDiff, Nat.reduceLT, Int.reduceGT, Int.reduceGE, Int.reduceBEq, Int.reduceBNe, reduceCtorEq, Nat.reduceAdd]
  intro i1  i2 a2_1 b2_1 i3 a3_2 b3_2 a3_1 b3_1 i4 a4_3 b4_3 a4_2 b4_2 a4_1 b4_1
  simp (config := {maxSteps := 1000000}) only [a2_1, b2_1, a3_2, b3_2, a3_1, b3_1, a4_3, b4_3, a4_2, b4_2, a4_1, b4_1, s46r, tbR_e, retS_ret, i_callNe, Int.natCast_nonneg, Nat.le_refl, Int.le_refl, List.take_succ_cons, List.take_zero, decide_true, decide_false, Bool.and_false, Bool.false_and, zz, zzN, zzF, zzD, zzM, cond_true, cond_false, ↓reduceIte, Nat.reduceEqDiff, Nat.reduceBEq, Int.reduceLT, Int.reduceLE, Int.reduceToNat, Int.reduceEq, Int.reduceAdd, Int.reduceSub, Int.reduceMul, Int.reduceNeg, Nat.reduceMul, Nat.reduceSub, Nat.reduceLeDiff, Nat.reduceLT, Int.reduceGT, Int.reduceGE, Int.reduceBEq, Int.reduceBNe, reduceCtorEq, Nat.reduceAdd]
  intro i5 a5_4 b5_4 a5_3 b5_3 a5_2 b5_2 a5_1 b5_1
  refine run_rangeF (f := 76) (first := []) (cap := [.ptr i5 1 0]) (by simp only [i_callNe, Int.natCast_nonneg, Nat.le_refl, Int.le_refl, List.take_succ_cons, List.take_zero, decide_true, decide_false, Bool.and_false, Bool.false_and, zz, zzN, zzF, zzD, zzM, cond_true, cond_false, ↓reduceIte, Nat.reduceEqDiff, Nat.reduceBEq, Int.reduceLT, Int.reduceLE, Int.reduceToNat, Int.reduceEq, Int.reduceAdd, Int.reduceSub, Int.reduceMul, Int.reduceNeg, Nat.reduceMul, Nat.reduceSub, Nat.reduceLeDiff, Nat.reduceLT, Int.reduceGT, Int.reduceGE, Int.reduceBEq, Int.reduceBNe, reduceCtorEq, Nat.reduceAdd]) fun l r rd hr hrd hne => ?_
  have n_i1 : ¬ r = i1 := fun e => by subst e; simp [a2_1, b2_1, a3_2, b3_2, a3_1, b3_1, a4_3, b4_3, a4_2, b4_2, a4_1, b4_1, a5_4, b5_4, a5_3, b5_3, a5_2, b5_2, a5_1, b5_1] at hr
  have n_i1' : ¬ i1 = r := fun e => n_i1 e.symm
  have d_i1 : ¬ rd = i1 := fun e => by subst e; simp [a2_1, b2_1, a3_2, b3_2, a3_1, b3_1, a4_3, b4_3, a4_2, b4_2, a4_1, b4_1, a5_4, b5_4, a5_3, b5_3, a5_2, b5_2, a5_1, b5_1] at hrd
  have d_i1' : ¬ i1 = rd := fun e => d_i1 e.symm
  have n_i2 : ¬ r = i2 := fun e => by subst e; simp [a2_1, b2_1, a3_2, b3_2, a3_1, b3_1, a4_3, b4_3, a4_2, b4_2, a4_1, b4_1, a5_4, b5_4, a5_3, b5_3, a5_2, b5_2, a5_1, b5_1] at hr
  have n_i2' : ¬ i2 = r := fun e => n_i2 e.symm
  have d_i2 : ¬ rd = i2 := fun e => by subst e; simp [a2_1, b2_1, a3_2, b3_2, a3_1, b3_1, a4_3, b4_3, a4_2, b4_2, a4_1, b4_1, a5_4, b5_4, a5_3, b5_3, a5_2, b5_2, a5_1, b5_1] at hrd
  have d_i2' : ¬ i2 = rd := fun e => d_i2 e.symm
  have n_i3 : ¬ r = i3 := fun e => by subst e; simp [a2_1, b2_1, a3_2, b3_2, a3_1, b3_1, a4_3, b4_3, a4_2, b4_2, a4_1, b4_1, a5_4, b5_4, a5_3, b5_3, a5_2, b5_2, a5_1, b5_1] at hr
  have n_i3' : ¬ i3 = r := fun e => n_i3 e.symm
  have d_i3 : ¬ rd = i3 := fun e => by subst e; simp [a2_1, b2_1, a3_2, b3_2, a3_1, b3_1, a4_3, b4_3, a4_2, b4_2, a4_1, b4_1, a5_4, b5_4, a5_3, b5_3, a5_2, b5_2, a5_1, b5_1] at hrd
  have d_i3' : ¬ i3 = rd := fun e => d_i3 e.symm
  have n_i4 : ¬ r = i4 := fun e => by subst e; simp [a2_1, b2_1, a3_2, b3_2, a3_1, b3_1, a4_3, b4_3, a4_2, b4_2, a4_1, b4_1, a5_4, b5_4, a5_3, b5_3, a5_2, b5_2, a5_1, b5_1] at hr
  have n_i4' : ¬ i4 = r := fun e => n_i4 e.symm
  have d_i4 : ¬ rd = i4 := fun e => by subst e; simp [a2_1, b2_1, a3_2, b3_2, a3_1, b3_1, a4_3, b4_3, a4_2, b4_2, a4_1, b4_1, a5_4, b5_4, a5_3, b5_3, a5_2, b5_2, a5_1, b5_1] at hrd
  have d_i4' : ¬ i4 = rd := fun e => d_i4 e.symm
  have n_i5 : ¬ r = i5 := fun e => by subst e; simp [a2_1, b2_1, a3_2, b3_2, a3_1, b3_1, a4_3, b4_3, a4_2, b4_2, a4_1, b4_1, a5_4, b5_4, a5_3, b5_3, a5_2, b5_2, a5_1, b5_1] at hr
  have n_i5' : ¬ i5 = r := fun e => n_i5 e.symm
  have d_i5 : ¬ rd = i5 := fun e => by subst e; simp [a2_1, b2_1, a3_2, b3_2, a3_1, b3_1, a4_3, b4_3, a4_2, b4_2, a4_1, b4_1, a5_4, b5_4, a5_3, b5_3, a5_2, b5_2, a5_1, b5_1] at hrd
  have d_i5' : ¬ i5 = rd := fun e => d_i5 e.symm
  have hne' : ¬ rd = r := fun e => hne e.symm
  rw [tbR_r, if_pos rfl]
  refine ⟨.mk k t s m kids, i5, rfl, by simp [n_i5', d_i5', enc_mk], hn, ?_⟩
  refine YI_ind (roundY_mono _ _ _ _ _) (fun i hh => (p < 0 ∨ (i : Int) ≤ p) ∧ hh.f i2 = some (.cells [.int .i64 p]) ∧ hh.f i3 = some (.cells [.int .i64 0, .int .i64 0, .str [], .int .i64 0, .nilsl]) ∧ hh.f i4 = some (.cells [.bool false]) ∧ hh.f r = some (.lp (.done .normal)) ∧ hh.f rd = some .dfr) _ ?_ ?_ _ 0 _ rfl (Nat.zero_le _) ⟨by simp; omega, by simp [a2_1, b2_1, a3_2, b3_2, a3_1, b3_1, a4_3, b4_3, a4_2, b4_2, a4_1, b4_1, a5_4, b5_4, a5_3, b5_3, a5_2, b5_2, a5_1, b5_1, n_i2', d_i2'], by simp [a2_1, b2_1, a3_2, b3_2, a3_1, b3_1, a4_3, b4_3, a4_2, b4_2, a4_1, b4_1, a5_4, b5_4, a5_3, b5_3, a5_2, b5_2, a5_1, b5_1, n_i3', d_i3'], by simp [a2_1, b2_1, a3_2, b3_2, a3_1, b3_1, a4_3, b4_3, a4_2, b4_2, a4_1, b4_1, a5_4, b5_4, a5_3, b5_3, a5_2, b5_2, a5_1, b5_1, n_i4', d_i4'], by simp, by simp [hne']⟩
  · rintro i x hh hx ⟨v1, v2, v3, v4, v5, v6⟩
    rw [round2]
    refine ⟨v5, ?_⟩
    have hx5 := len_enc x
    obtain ⟨xk, xt, xs, xm, xl⟩ := x
    rw [enc_mk] at *
    simp (config := {maxSteps := 1000000}) only [v2, v3, v4, v5, v6, asgK_normal, tbR_e, tb46r_e, i_callNe, Int.natCast_nonneg, Nat.le_refl, Int.le_refl, List.take_succ_cons, List.take_zero, decide_true, decide_false, Bool.and_false, Bool.false_and, zz, zzN, zzF, zzD, zzM, cond_true, cond_false, ↓reduceIte, Nat.reduceEqDiff, Nat.reduceBEq, Int.reduceLT, Int.reduceLE, Int.reduceToNat, Int.reduceEq, Int.reduceAdd, Int.reduceSub, Int.reduceMul, Int.reduceNeg, Nat.reduceMul, Nat.reduceSub, Nat.reduceLeDiff, Nat.reduceLT, Int.reduceGT, Int.reduceGE, Int.reduceBEq, Int.reduceBNe, reduceCtorEq, Nat.reduceAdd]
    intro i7 f7
    have m_i2 : ¬ i7 = i2 := fun e => by subst e; rw [v2] at f7; cases f7
    have m_i2' : ¬ i2 = i7 := fun e => m_i2 e.symm
    have m_i3 : ¬ i7 = i3 := fun e => by subst e; rw [v3] at f7; cases f7
    have m_i3' : ¬ i3 = i7 := fun e => m_i3 e.symm
    have m_i4 : ¬ i7 = i4 := fun e => by subst e; rw [v4] at f7; cases f7
    have m_i4' : ¬ i4 = i7 := fun e => m_i4 e.symm
    have m_r : ¬ i7 = r := fun e => by subst e; rw [v5] at f7; cases f7
    have m_r' : ¬ r = i7 := fun e => m_r e.symm
    have m_rd : ¬ i7 = rd := fun e => by subst e; rw [v6] at f7; cases f7
    have m_rd' : ¬ rd = i7 := fun e => m_rd e.symm
    have hxi : (listF (.mk k t s m kids))[i]? = some (.mk xk xt xs xm xl) := hx
    cases c : ((i : Int) == p) with
    | false =>
      have c' : ¬ (i : Int) = p := by simpa using c
      simp (config := {maxSteps := 1000000}) only [c, v2, v3, v4, v5, v6, m_i2, m_i2', m_i3, m_i3', m_i4, m_i4', m_r, m_r', m_rd, m_rd', n_i2, n_i2', n_i3, n_i3', n_i4, n_i4', d_i2, d_i2', d_i3, d_i3', d_i4, d_i4', hne, hne', a2_1, b2_1, a3_2, b3_2, a3_1, b3_1, a4_3, b4_3, a4_2, b4_2, a4_1, b4_1, a5_4, b5_4, a5_3, b5_3, a5_2, b5_2, a5_1, b5_1, bodyK_eq, Ex.code, Option.isNone_none, AHeap.del_f, true_and, tbR_e, tb46r_e, i_callNe, Int.natCast_nonneg, Nat.le_refl, Int.le_refl, List.take_succ_cons, List.take_zero, decide_true, decide_false, Bool.and_false, Bool.false_and, zz, zzN, zzF, zzD, zzM, cond_true, cond_false, ↓reduceIte, Nat.reduceEqDiff, Nat.reduceBEq, Int.reduceLT, Int.reduceLE, Int.reduceToNat, Int.reduceEq, Int.reduceAdd, Int.reduceSub, Int.reduceMul, Int.reduceNeg, Nat.reduceMul, Nat.reduceSub, Nat.reduceLeDiff, Nat.reduceLT, Int.reduceGT, Int.reduceGE, Int.reduceBEq, Int.reduceBNe, reduceCtorEq, Nat.reduceAdd]
      have c2t : p < 0 ∨ (i : Int) ≤ p := v1
      show p < 0 ∨ ((i + 1 : Nat) : Int) ≤ p
      omega
    | true =>
      have c' : (i : Int) = p := by simpa using c
      simp (config := {maxSteps := 1000000}) only [c, v2, v3, v4, v5, v6, m_i2, m_i2', m_i3, m_i3', m_i4, m_i4', m_r, m_r', m_rd, m_rd', n_i2, n_i2', n_i3, n_i3', n_i4, n_i4', d_i2, d_i2', d_i3, d_i3', d_i4, d_i4', hne, hne', a2_1, b2_1, a3_2, b3_2, a3_1, b3_1, a4_3, b4_3, a4_2, b4_2, a4_1, b4_1, a5_4, b5_4, a5_3, b5_3, a5_2, b5_2, a5_1, b5_1, bodyK_eq, Ex.code, Option.isNone_some, AHeap.del_f, true_and, tbR_e, tb46r_e, i_callNe, Int.natCast_nonneg, Nat.le_refl, Int.le_refl, List.take_succ_cons, List.take_zero, decide_true, decide_false, Bool.and_false, Bool.false_and, zz, zzN, zzF, zzD, zzM, cond_true, cond_false, ↓reduceIte, Nat.reduceEqDiff, Nat.reduceBEq, Int.reduceLT, Int.reduceLE, Int.reduceToNat, Int.reduceEq, Int.reduceAdd, Int.reduceSub, Int.reduceMul, Int.reduceNeg, Nat.reduceMul, Nat.reduceSub, Nat.reduceLeDiff, Nat.reduceLT, Int.reduceGT, Int.reduceGE, Int.reduceBEq, Int.reduceBNe, reduceCtorEq, Nat.reduceAdd]
      refine rangeK_done (e := .ret) (by simp) ?_
      have hyes : atF (.mk k t s m kids) p = some (.mk xk xt xs xm xl) := by
        unfold atF
        rw [if_pos (by omega), ← c']
        exact hxi
      rw [hyes]
      simp (config := {maxSteps := 1000000}) only [v2, v3, v4, v5, v6, m_i2, m_i2', m_i3, m_i3', m_i4, m_i4', m_r, m_r', m_rd, m_rd', n_i2, n_i2', n_i3, n_i3', n_i4, n_i4', d_i2, d_i2', d_i3, d_i3', d_i4, d_i4', hne, hne', a2_1, b2_1, a3_2, b3_2, a3_1, b3_1, a4_3, b4_3, a4_2, b4_2, a4_1, b4_1, a5_4, b5_4, a5_3, b5_3, a5_2, b5_2, a5_1, b5_1, AHeap.del_f, retD_ret, leav_mark, leav_nil, finD, Option.getD_some, Option.isSome_some, enc_mk, i_callNe, Int.natCast_nonneg, Nat.le_refl, Int.le_refl, List.take_succ_cons, List.take_zero, decide_true, decide_false, Bool.and_false, Bool.false_and, zz, zzN, zzF, zzD, zzM, cond_true, cond_false, ↓reduceIte, Nat.reduceEqDiff, Nat.reduceBEq, Int.reduceLT, Int.reduceLE, Int.reduceToNat, Int.reduceEq, Int.reduceAdd, Int.reduceSub, Int.reduceMul, Int.reduceNeg, Nat.reduceMul, Nat.reduceSub, Nat.reduceLeDiff, Nat.reduceLT, Int.reduceGT, Int.reduceGE, Int.reduceBEq, Int.reduceBNe, reduceCtorEq, Nat.reduceAdd]
      exact .inr ⟨_, AHeap.sub_refl _⟩
  · rintro hh ⟨v1, v2, v3, v4, v5, v6⟩
    refine rangeK_done v5 ?_
    have hno : atF (.mk k t s m kids) p = none := by
      unfold atF
      have v7 : p < 0 ∨ ((listF (.mk k t s m kids)).length : Int) ≤ p := v1
      split
      · rw [List.getElem?_eq_none]; omega
      · rfl
    rw [hno]
    simp (config := {maxSteps := 1000000}) only [v2, v3, v4, v5, v6, n_i2, n_i2', n_i3, n_i3', n_i4, n_i4', d_i2, d_i2', d_i3, d_i3', d_i4, d_i4', hne, hne', a2_1, b2_1, a3_2, b3_2, a3_1, b3_1, a4_3, b4_3, a4_2, b4_2, a4_1, b4_1, a5_4, b5_4, a5_3, b5_3, a5_2, b5_2, a5_1, b5_1, AHeap.del_f, retD_ret, leav_mark, leav_nil, finD, Option.getD_none, Option.isSome_none, zeroNd, enc_mk, encs_nil, i_callNe, Int.natCast_nonneg, Nat.le_refl, Int.le_refl, List.take_succ_cons, List.take_zero, decide_true, decide_false, Bool.and_false, Bool.false_and, zz, zzN, zzF, zzD, zzM, cond_true, cond_false, ↓reduceIte, Nat.reduceEqDiff, Nat.reduceBEq, Int.reduceLT, Int.reduceLE, Int.reduceToNat, Int.reduceEq, Int.reduceAdd, Int.reduceSub, Int.reduceMul, Int.reduceNeg, Nat.reduceMul, Nat.reduceSub, Nat.reduceLeDiff, Nat.reduceLT, Int.reduceGT, Int.reduceGE, Int.reduceBEq, Int.reduceBNe, reduceCtorEq, Nat.reduceAdd]
    exact .inr ⟨_, AHeap.sub_refl _⟩
end
end Go.Proofs.YthpgepillaeldaaDoor.Zz
/- Contracts: a tree with another node at a place. -/
namespace Go.Proofs.YthpgepillaeldaaDoor.Zz
noncomputable section
set_option linter.unusedVariables false
set_option linter.unusedSimpArgs false
set_option maxRecDepth 20000
def p25n : Plan := ⟨⟨[], [], [(10, 5), (11, 5)], [], [], []⟩, [(10, [0, 1, 2, 3, 4, 5, 6, 7, 8, 9, 10, 11, 12, 13, 14, 15]), (11, [0, 1, 2, 3, 4, 5, 6, 7, 8, 9, 10])], [], false⟩
/-- cupel/cupelref10.Replace (3 parameters, 0 captured) -/
def s25n : Stm :=
  .seq (.ops [⟨.box (.t 0), (some 3), none, false⟩,
     ⟨.box (.t 2), (some 5), none, false⟩,
     ⟨.alloc [(.int .i64 0), (.int .i64 0), (.str []), (.int .i64 0), .nilsl], (some 6), none, false⟩])
  (.seq (.seq (.ops [⟨.mov (.t 1), (some 11), none, true⟩,
      ⟨.bin .eql (.t 11) (.c (.int .i64 0)), (some 12), none, true⟩])
   (.cond (.t 12)
    (.seq (.ops [⟨.load (some 5) (.t 5), (some 13), none, false⟩,
        ⟨.store 5 (.t 6) (.t 13), none, none, false⟩])
     (.ret))
    (.skip)))
  (.seq (.ops [⟨.fieldAddr 0 (.t 3), (some 14), none, true⟩,
     ⟨.load none (.t 14), (some 15), none, false⟩,
     ⟨.fieldAddr 1 (.t 3), (some 16), none, true⟩,
     ⟨.load none (.t 16), (some 17), none, false⟩,
     ⟨.fieldAddr 2 (.t 3), (some 18), none, true⟩,
     ⟨.load none (.t 18), (some 19), none, false⟩,
     ⟨.fieldAddr 3 (.t 3), (some 20), none, true⟩,
     ⟨.load none (.t 20), (some 21), none, false⟩,
     ⟨.build [(.int .i64 0), (.int .i64 0), (.str []), (.int .i64 0), .nilsl] [(0, 1, (.t 15)), (1, 1, (.t 17)), (2, 1, (.t 19)), (3, 1, (.t 21)), (4, 1, (.c .nilsl))], (some 22), none, true⟩,
     ⟨.alloc [(.int .i64 0), (.int .i64 0), (.str []), (.int .i64 0), .nilsl], (some 7), none, false⟩,
     ⟨.store 5 (.t 7) (.t 22), none, none, false⟩])
  (.seq (.ops [⟨.mov (.c (.int .i64 1)), (some 8), none, true⟩])
  (.seq (.seq (.ops [⟨.mov (.c (.int .i64 0)), (some 9), none, true⟩])
   (.block 0 (.loop (.seq (.seq (.ops [⟨.mov (.t 9), (some 23), none, true⟩,
         ⟨.fieldAddr 4 (.t 3), (some 24), none, true⟩,
         ⟨.load none (.t 24), (some 25), none, false⟩,
         ⟨.len .sl (.t 25), (some 26), none, false⟩,
         ⟨.bin .lss (.t 23) (.t 26), (some 27), none, true⟩])
      (.cond (.t 27)
       (.skip)
       (.exit 0)))
     (.seq (.block 1 (.seq (.ops [⟨.fieldAddr 4 (.t 3), (some 30), none, true⟩,
          ⟨.load none (.t 30), (some 31), none, false⟩,
          ⟨.mov (.t 9), (some 32), none, true⟩,
          ⟨.indexAddrS 5 (.t 31) (.t 32), (some 33), none, false⟩,
          ⟨.load (some 5) (.t 33), (some 34), none, false⟩,
          ⟨.qcall (.f 48) [(.t 34)], (some 35), none, false⟩,
          ⟨.mov (.t 35), (some 10), none, true⟩])
       (.seq (.seq (.ops [⟨.mov (.t 1), (some 36), none, true⟩,
           ⟨.mov (.t 8), (some 37), none, true⟩,
           ⟨.bin .geq (.t 36) (.t 37), (some 38), none, true⟩,
           ⟨.mov (.t 38), (some 39), none, true⟩,
           ⟨.mov (.t 1), (some 40), (some (39, true)), true⟩,
           ⟨.mov (.t 8), (some 41), (some (39, true)), true⟩,
           ⟨.mov (.t 10), (some 42), (some (39, true)), true⟩,
           ⟨.bin .add (.t 41) (.t 42), (some 43), (some (39, true)), true⟩,
           ⟨.bin .lss (.t 40) (.t 43), (some 44), (some (39, true)), true⟩,
           ⟨.pick (.t 39) (.t 44) (.c (.bool false)), (some 45), none, true⟩])
        (.cond (.t 45)
         (.opsD [⟨.fieldAddr 4 (.t 7), (some 46), none, true⟩,
            ⟨.load none (.t 46), (some 47), none, false⟩,
            ⟨.fieldAddr 4 (.t 3), (some 48), none, true⟩,
            ⟨.load none (.t 48), (some 49), none, false⟩,
            ⟨.mov (.t 9), (some 50), none, true⟩,
            ⟨.indexAddrS 5 (.t 49) (.t 50), (some 51), none, false⟩,
            ⟨.load (some 5) (.t 51), (some 52), none, false⟩,
            ⟨.mov (.t 1), (some 53), none, true⟩,
            ⟨.mov (.t 8), (some 54), none, true⟩,
            ⟨.bin .sub (.t 53) (.t 54), (some 55), none, true⟩,
            ⟨.load (some 5) (.t 5), (some 56), none, false⟩,
            ⟨.qcall (.f 25) [(.t 52), (.t 55), (.t 56)], (some 57), none, false⟩,
            ⟨.buildSlice 5 [(.int .i64 0), (.int .i64 0), (.str []), (.int .i64 0), .nilsl] 1 [(0, (.t 57))] false, (some 58), none, true⟩,
            ⟨.append 5 64 false (.t 47) (.t 58), (some 59), none, false⟩,
            ⟨.fieldAddr 4 (.t 7), (some 60), none, true⟩,
            ⟨.store 1 (.t 60) (.t 59), none, none, false⟩])
         (.opsD [⟨.fieldAddr 4 (.t 7), (some 61), none, true⟩,
            ⟨.load none (.t 61), (some 62), none, false⟩,
            ⟨.fieldAddr 4 (.t 3), (some 63), none, true⟩,
            ⟨.load none (.t 63), (some 64), none, false⟩,
            ⟨.mov (.t 9), (some 65), none, true⟩,
            ⟨.indexAddrS 5 (.t 64) (.t 65), (some 66), none, false⟩,
            ⟨.load (some 5) (.t 66), (some 67), none, false⟩,
            ⟨.buildSlice 5 [(.int .i64 0), (.int .i64 0), (.str []), (.int .i64 0), .nilsl] 1 [(0, (.t 67))] false, (some 68), none, true⟩,
            ⟨.append 5 64 false (.t 62) (.t 68), (some 69), none, false⟩,
            ⟨.fieldAddr 4 (.t 7), (some 70), none, true⟩,
            ⟨.store 1 (.t 70) (.t 69), none, none, false⟩])))
       (.ops [⟨.mov (.t 8), (some 71), none, true⟩,
         ⟨.mov (.t 10), (some 72), none, true⟩,
         ⟨.bin .add (.t 71) (.t 72), (some 73), none, true⟩,
         ⟨.mov (.t 73), (some 8), none, true⟩]))))
     (.ops [⟨.mov (.t 9), (some 28), none, true⟩,
       ⟨.bin .add (.t 28) (.c (.int .i64 1)), (some 29), none, true⟩,
       ⟨.mov (.t 29), (some 9), none, true⟩]))))))
  (.seq (.ops [⟨.load (some 5) (.t 7), (some 74), none, false⟩,
     ⟨.store 5 (.t 6) (.t 74), none, none, false⟩])
  (.ret))))))
theorem st25n : stmOf Tryd.prog 25 p25n = some (s25n, [.cell 6 (some 5)], 75) := by kernel_rfl

mutual
/-- A tree with another node at a place. -/
def replF (by' : Nd) : Nd → Int → Nd
  | .mk k t s n l, p => if p = 0 then by' else .mk k t s n (replFs by' l 1 p)
def replFs (by' : Nd) : List Nd → Int → Int → List Nd
  | [], _, _ => []
  | x :: l, a, p => (if a ≤ p ∧ p < a + x.cnt then replF by' x (p - a) else x) :: replFs by' l (a + x.cnt) p
end
theorem replF_mk (b : Nd) (k t : Int) (s : List UInt8) (n : Int) (l : List Nd) (p : Int) : replF b (.mk k t s n l) p = if p = 0 then b else .mk k t s n (replFs b l 1 p) := by rw [replF]
theorem replFs_nil (b : Nd) (a p : Int) : replFs b [] a p = [] := by rw [replFs]
theorem replFs_cons (b : Nd) (x : Nd) (l : List Nd) (a p : Int) : replFs b (x :: l) a p = (if a ≤ p ∧ p < a + x.cnt then replF b x (p - a) else x) :: replFs b l (a + x.cnt) p := by rw [replFs]
theorem replFs_len (b : Nd) : ∀ (l : List Nd) (a p : Int), (replFs b l a p).length = l.length
  | [], a, p => by rw [replFs_nil]
  | x :: l, a, p => by rw [replFs_cons, List.length_cons, List.length_cons, replFs_len b l]
theorem replFs_take (b : Nd) : ∀ (l : List Nd) (a p : Int) (i : Nat) (x : Nd), l[i]? = some x → replFs b (l.take (i + 1)) a p = replFs b (l.take i) a p ++ [if a + Nd.cnts (l.take i) ≤ p ∧ p < a + Nd.cnts (l.take i) + x.cnt then replF b x (p - (a + Nd.cnts (l.take i))) else x]
  | [], a, p, i, x, h => by simp at h
  | y :: l, a, p, 0, x, h => by
    simp at h; subst h
    simp only [List.take_succ_cons, List.take_zero, replFs_cons, replFs_nil, cnts_nil, List.nil_append]
    simp
  | y :: l, a, p, i + 1, x, h => by
    have := replFs_take b l (a + y.cnt) p i x (by simpa using h)
    simp only [List.take_succ_cons, replFs_cons, this, cnts_cons, List.cons_append]
    congr 2
    have e : a + ↑y.cnt + ↑(Nd.cnts (List.take i l)) = a + ((y.cnt + Nd.cnts (List.take i l) : Nat) : Int) := by omega
    rw [e]
def q25f (f : Nat) : List D → Option D
  | [.agg ds, .int .i64 p, .agg es] => match decN ds, decN es with
    | some n, some b => if n.cnt < f ∧ -9223372036854775808 ≤ p ∧ p ≤ 9223372036854775807 then some (.agg (replF b n p).enc) else none
    | _, _ => none
  | _ => none
def q48n := qN (fun n => decide (n.cnt < 1000000000)) fun n => .int .i64 n.cnt
theorem q48n_ok (args : List D) (d : D) (h : q48n args = some d) : PCall Tryd.prog 48 args d := qN_ok (fun n h => rcount_c n (by simpa using h)) args d h
def tb48n : Tab := Tab.zero.addQ 48 q48n
theorem tb48n_q (g : FuncId) (args : List D) : tb48n.q g args = if g = 48 then q48n args else Tab.zero.q g args := rfl
theorem tb48n_a : tb48n.a = Tab.zero.a := rfl
theorem tb48n_c : tb48n.c = Tab.zero.c := rfl
theorem tb48n_ok : tb48n.ok Tryd.prog := Tab.addQ_ok (Tab.zero_ok _) q48n_ok
theorem tb48n_e : type_of% (And.intro @tb48n_q (And.intro @tb48n_a @tb48n_c)) := (And.intro @tb48n_q (And.intro @tb48n_a @tb48n_c))

set_option maxHeartbeats 1000000 in
theorem rrepl_step (f : Nat) (hf : f < 1000000000) (hT : (tb48n.addQ 25 (q25f f)).ok Tryd.prog) (n b : Nd) (p : Int) (hn : n.cnt < f + 1) (hp : -9223372036854775808 ≤ p ∧ p ≤ 9223372036854775807) : PCall Tryd.prog 25 [.agg n.enc, .int .i64 p, .agg b.enc] (.agg (replF b n p).enc) := by
  refine PCall.run hT st25n (by simp) fun E => ?_
  have hT_q : ∀ g args, (tb48n.addQ 25 (q25f f)).q g args = if g = 25 then q25f f args else tb48n.q g args := fun g args => rfl
  have hq : ∀ (y : Nd) (p : Int), y.cnt < f → -9223372036854775808 ≤ p → p ≤ 9223372036854775807 → q25f f [.agg y.enc, .int .i64 p, .agg b.enc] = some (.agg (replF b y p).enc) := fun y p h1 h2 h3 => by
    simp only [q25f, decN_enc]; rw [if_pos ⟨h1, h2, h3⟩]
  generalize tb48n.addQ 25 (q25f f) = TT at hT_q ⊢
  have pb := part_enc b
  obtain ⟨k, t, x, m, l⟩ := n
  have hcnt : ∀ y ∈ l, y.cnt < f := fun y hy => by have := cnt_kid (k := k) (t := t) (s := x) (n := m) hy; omega
  rw [cnt_mk] at hn
  have hln := cnts_len l
  rw [replF_mk, enc_mk]
  by_cases c0n : p = 0
  · rw [if_pos c0n]
    have g0 : (p == 0) = true := by simpa using c0n
    obtain ⟨bk, bt, bs, bn, bl⟩ := b
    rw [enc_mk] at *
    simp (config := {maxSteps := 1000000}) only [s25n, g0, hT_q, tb41n_e, tbLp_e, tbRt_e, tb16n_e, tb48n_e, i_callNe, Int.natCast_nonneg, Nat.le_refl, Int.le_refl, List.take_succ_cons, List.take_zero, decide_true, decide_false, Bool.and_false, Bool.false_and, zz, zzN, zzF, zzD, zzM, cond_true, cond_false, ↓reduceIte, Nat.reduceEqDiff, Nat.reduceBEq, Int.reduceLT, Int.reduceLE, Int.reduceToNat, Int.reduceEq, Int.reduceAdd, Int.reduceSub, Int.reduceMul, Int.reduceNeg, Nat.reduceMul, Nat.reduceSub, Nat.reduceLeDiff, Nat.reduceLT, Int.reduceGT, Int.reduceGE, Int.reduceBEq, Int.reduceBNe, reduceCtorEq, Nat.reduceAdd]
    intro i3 i5 n1 n2 i6 n3 n4 n5 n6
    simp (config := {maxSteps := 1000000}) only [n1, n2, n3, n4, n5, n6, hT_q, tb41n_e, tbLp_e, tbRt_e, tb16n_e, tb48n_e, i_callNe, Int.natCast_nonneg, Nat.le_refl, Int.le_refl, List.take_succ_cons, List.take_zero, decide_true, decide_false, Bool.and_false, Bool.false_and, zz, zzN, zzF, zzD, zzM, cond_true, cond_false, ↓reduceIte, Nat.reduceEqDiff, Nat.reduceBEq, Int.reduceLT, Int.reduceLE, Int.reduceToNat, Int.reduceEq, Int.reduceAdd, Int.reduceSub, Int.reduceMul, Int.reduceNeg, Nat.reduceMul, Nat.reduceSub, Nat.reduceLeDiff, Nat.reduceLT, Int.reduceGT, Int.reduceGE, Int.reduceBEq, Int.reduceBNe, reduceCtorEq, Nat.reduceAdd]
  · rw [if_neg c0n, enc_mk]
    have g0 : (p == 0) = false := by simpa using c0n
    obtain ⟨bk, bt, bs, bn, bl⟩ := b
    generalize hR : replFs (Nd.mk bk bt bs bn bl) = R at *
    rw [enc_mk] at *
    simp (config := {maxSteps := 1000000}) only [s25n, g0, hT_q, tb41n_e, tbLp_e, tbRt_e, tb16n_e, tb48n_e, i_callNe, Int.natCast_nonneg, Nat.le_refl, Int.le_refl, List.take_succ_cons, List.take_zero, decide_true, decide_false, Bool.and_false, Bool.false_and, zz, zzN, zzF, zzD, zzM, cond_true, cond_false, ↓reduceIte, Nat.reduceEqDiff, Nat.reduceBEq, Int.reduceLT, Int.reduceLE, Int.reduceToNat, Int.reduceEq, Int.reduceAdd, Int.reduceSub, Int.reduceMul, Int.reduceNeg, Nat.reduceMul, Nat.reduceSub, Nat.reduceLeDiff, Nat.reduceLT, Int.reduceGT, Int.reduceGE, Int.reduceBEq, Int.reduceBNe, reduceCtorEq, Nat.reduceAdd]
    intro i3 i5 n1 n2 i6 n3 n4 n5 n6
    simp (config := {maxSteps := 1000000}) only [n1, n2, n3, n4, n5, n6, hT_q, tb41n_e, tbLp_e, tbRt_e, tb16n_e, tb48n_e, i_callNe, Int.natCast_nonneg, Nat.le_refl, Int.le_refl, List.take_succ_cons, List.take_zero, decide_true, decide_false, Bool.and_false, Bool.false_and, zz, zzN, zzF, zzD, zzM, cond_true, cond_false, ↓reduceIte, Nat.reduceEqDiff, Nat.reduceBEq, Int.reduceLT, Int.reduceLE, Int.reduceToNat, Int.reduceEq, Int.reduceAdd, Int.reduceSub, Int.reduceMul, Int.reduceNeg, Nat.reduceMul, Nat.reduceSub, Nat.reduceLeDiff, Nat.reduceLT, Int.reduceGT, Int.reduceGE, Int.reduceBEq, Int.reduceBNe, reduceCtorEq, Nat.reduceAdd]
    intro i7 m1 m2 m3 m4 m5 m6
    refine run_loop (X := Nat × Nat × AHeap) (fun z => [(1, .int .i64 p), (3, .ptr i3 1 0), (5, .ptr i5 1 0), (6, .ptr i6 1 0), (7, .ptr i7 1 0), (8, .int .i64 (1 + Nd.cnts (l.take z.1) : Nat)), (9, .int .i64 z.1)]) (fun z => z.2.2) (fun z => l.length - z.1)
      (fun z => z.1 ≤ l.length ∧ z.2.2.f i3 = some (.cells [.int .i64 k, .int .i64 t, .str x, .int .i64 m, .sl (Nd.encs l)]) ∧ z.2.2.f i5 = some (.cells [.int .i64 bk, .int .i64 bt, .str bs, .int .i64 bn, .sl (Nd.encs bl)]) ∧ z.2.2.f i6 = some (.cells [.int .i64 0, .int .i64 0, .str [], .int .i64 0, .nilsl]) ∧
        z.2.2.f i7 = some (.cells [.int .i64 k, .int .i64 t, .str x, .int .i64 m, ownD z.2.1 z.1]) ∧ (z.1 ≠ 0 → z.2.1 ≠ i3 ∧ z.2.1 ≠ i5 ∧ z.2.1 ≠ i6 ∧ z.2.1 ≠ i7 ∧ z.2.2.f z.2.1 = some (.row 5 (z.1 + 2) (Nd.encs (R (l.take z.1) 1 p)) false))) (0, 0, _) ⟨Nat.zero_le _, ?_, ?_, ?_, ?_, fun h => absurd rfl h⟩ ?_ (AHeap.sub_refl _) ?_
    · simp only [AHeap.set_f, n1, n2, n3, n4, n5, n6, m1, m2, m3, m4, m5, m6, ↓reduceIte]
    · simp only [AHeap.set_f, n1, n2, n3, n4, n5, n6, m1, m2, m3, m4, m5, m6, ↓reduceIte]
    · simp only [AHeap.set_f, n1, n2, n3, n4, n5, n6, m1, m2, m3, m4, m5, m6, ↓reduceIte]
    · simp only [AHeap.set_f, n1, n2, n3, n4, n5, n6, m1, m2, m3, m4, m5, m6, ownD_zero, ↓reduceIte]
    · simp only [List.take_zero, cnts_nil, i_callNe, Int.natCast_nonneg, Nat.le_refl, Int.le_refl, List.take_succ_cons, List.take_zero, decide_true, decide_false, Bool.and_false, Bool.false_and, zz, zzN, zzF, zzD, zzM, cond_true, cond_false, ↓reduceIte, Nat.reduceEqDiff, Nat.reduceBEq, Int.reduceLT, Int.reduceLE, Int.reduceToNat, Int.reduceEq, Int.reduceAdd, Int.reduceSub, Int.reduceMul, Int.reduceNeg, Nat.reduceMul, Nat.reduceSub, Nat.reduceLeDiff, Nat.reduceLT, Int.reduceGT, Int.reduceGE, Int.reduceBEq, Int.reduceBNe, reduceCtorEq, Nat.reduceAdd]
    rintro ⟨i, r, hh⟩ Q ⟨j0, v3, v5, v6, v7, vr⟩ hQ
    simp only at j0 v3 v5 v6 v7 vr hQ ⊢
    cases c : decide (i < l.length) with
    | false =>
      have e0 : i = l.length := by simp at c; omega
      have g : ((i : Int) < (l.length : Int)) = False := eq_false (by omega)
      have hRl := replFs_len (Nd.mk bk bt bs bn bl) l 1 p
      rw [hR] at hRl
      by_cases h0 : l = []
      · subst h0
        simp only [List.length_nil] at e0
        subst e0
        rw [ownD_zero] at v7
        have hR0 : R [] 1 p = [] := by rw [← hR, replFs_nil]
        simp (config := {maxSteps := 1000000}) only [g, v3, v5, v6, v7, n1, n2, n3, n4, n5, n6, m1, m2, m3, m4, m5, m6, encs_nil, hR0, len_encs, hT_q, tb41n_e, tbLp_e, tbRt_e, tb16n_e, tb48n_e, i_callNe, Int.natCast_nonneg, Nat.le_refl, Int.le_refl, List.take_succ_cons, List.take_zero, decide_true, decide_false, Bool.and_false, Bool.false_and, zz, zzN, zzF, zzD, zzM, cond_true, cond_false, ↓reduceIte, Nat.reduceEqDiff, Nat.reduceBEq, Int.reduceLT, Int.reduceLE, Int.reduceToNat, Int.reduceEq, Int.reduceAdd, Int.reduceSub, Int.reduceMul, Int.reduceNeg, Nat.reduceMul, Nat.reduceSub, Nat.reduceLeDiff, Nat.reduceLT, Int.reduceGT, Int.reduceGE, Int.reduceBEq, Int.reduceBNe, reduceCtorEq, Nat.reduceAdd]
      · have h1 : l.length ≠ 0 := fun e => h0 (List.length_eq_zero_iff.1 e)
        subst e0
        obtain ⟨r1, r2, r3, r4, v8⟩ := vr h1
        rw [ownD_pos h1] at v7
        have r1' : ¬ i3 = r := fun e => r1 e.symm
        have r2' : ¬ i5 = r := fun e => r2 e.symm
        have r3' : ¬ i6 = r := fun e => r3 e.symm
        have r4' : ¬ i7 = r := fun e => r4 e.symm
        rw [List.take_length] at v8
        have tk : (Nd.encs (R l 1 p)).take l.length = Nd.encs (R l 1 p) := List.take_of_length_le (by rw [len_encs]; omega)
        simp (config := {maxSteps := 1000000}) only [g, v3, v5, v6, v7, v8, tk, n1, n2, n3, n4, n5, n6, m1, m2, m3, m4, m5, m6, r1, r2, r3, r4, r1', r2', r3', r4', len_encs, hRl, hT_q, tb41n_e, tbLp_e, tbRt_e, tb16n_e, tb48n_e, i_callNe, Int.natCast_nonneg, Nat.le_refl, Int.le_refl, List.take_succ_cons, List.take_zero, decide_true, decide_false, Bool.and_false, Bool.false_and, zz, zzN, zzF, zzD, zzM, cond_true, cond_false, ↓reduceIte, Nat.reduceEqDiff, Nat.reduceBEq, Int.reduceLT, Int.reduceLE, Int.reduceToNat, Int.reduceEq, Int.reduceAdd, Int.reduceSub, Int.reduceMul, Int.reduceNeg, Nat.reduceMul, Nat.reduceSub, Nat.reduceLeDiff, Nat.reduceLT, Int.reduceGT, Int.reduceGE, Int.reduceBEq, Int.reduceBNe, reduceCtorEq, Nat.reduceAdd]
    | true =>
      have c : i < l.length := by simpa using c
      obtain ⟨y, hy⟩ : ∃ y, l[i]? = some y := ⟨_, List.getElem?_eq_getElem c⟩
      have g : ((i : Int) < (l.length : Int)) = True := eq_true (by omega)
      have hym : y ∈ l := List.mem_of_getElem? hy
      have wi : IntKind.i64.wrap ((i : Int) + 1) = ((i + 1 : Nat) : Int) := wrap_succ (by omega)
      have hpy := part_enc y
      have hac : ∀ (K : D → AHeap → Prop) (h : AHeap), askE 5 K h (Nd.encs l) (i : Int) = K (.eptr y.enc 0) h := fun K h => askE_encs hy
      have hqk : q48n [.agg y.enc] = some (.int .i64 y.cnt) := qN_eq (by have := hcnt y hym; simp; omega)
      have ht := cnts_take hy
      have hle := cnts_le l (i + 1)
      have hRt := replFs_take (Nd.mk bk bt bs bn bl) l 1 p i y hy
      rw [hR] at hRt
      have e1 : (1 : Int) + (Nd.cnts (l.take i) : Int) = ((1 + Nd.cnts (l.take i) : Nat) : Int) := by omega
      rw [e1] at hRt
      have wc : IntKind.i64.wrap (((1 + Nd.cnts (l.take i) : Nat) : Int) + (y.cnt : Int)) = ((1 + Nd.cnts (l.take (i + 1)) : Nat) : Int) := by
        rw [wrap_add (by omega), ht, Nat.add_assoc]
      have hyc := hcnt y hym
      generalize hat : 1 + Nd.cnts (l.take i) = at0 at *
      have hxn : (Nd.encs (R (l.take i) 1 p)).length = i := by
        have := replFs_len (Nd.mk bk bt bs bn bl) (l.take i) 1 p
        rw [hR] at this
        rw [len_encs, this, List.length_take]; omega
      clear hy hym
      by_cases q1n : (at0 : Int) ≤ p
      · have g1 : (p ≥ (at0 : Int)) = True := eq_true q1n
        by_cases q2n : p < (at0 : Int) + y.cnt
        · have g2 : (p < ((1 + Nd.cnts (l.take (i + 1)) : Nat) : Int)) = True := eq_true (by omega)
          have ws : IntKind.i64.wrap (p - (at0 : Int)) = p - (at0 : Int) := wrap_i64 (by omega) (by omega)
          have hqy := hq y (p - (at0 : Int)) hyc (by omega) (by omega)
          rw [if_pos ⟨q1n, q2n⟩] at hRt
          generalize replF (Nd.mk bk bt bs bn bl) y (p - (at0 : Int)) = w at *
          have hw2 : (w).enc.length = 5 ∧ (w).enc.all cellOk = true := ⟨len_enc _, enc_ok _⟩
          have hew : Nd.encs (R (l.take (i + 1)) 1 p) = Nd.encs (R (l.take i) 1 p) ++ [(w).enc] := by rw [hRt, encs_snoc]
          clear hRt hq hR
          generalize y.cnt = yc at *
          obtain ⟨yk, yt, yx, ym, yl⟩ := y
          obtain ⟨wk, wt, wx, wm, wl⟩ := w
          simp only [enc_mk] at hqy hw2 hew
          rw [enc_mk] at *
          simp (config := {maxSteps := 1000000}) only [g, g1, g2, ws, hqy, v3, v5, v6, v7, hac, hpy, wi, wc, hqk, enc_unnil, len_encs, n1, n2, n3, n4, n5, n6, m1, m2, m3, m4, m5, m6, hT_q, tb41n_e, tbLp_e, tbRt_e, tb16n_e, tb48n_e, i_callNe, Int.natCast_nonneg, Nat.le_refl, Int.le_refl, List.take_succ_cons, List.take_zero, decide_true, decide_false, Bool.and_false, Bool.false_and, zz, zzN, zzF, zzD, zzM, cond_true, cond_false, ↓reduceIte, Nat.reduceEqDiff, Nat.reduceBEq, Int.reduceLT, Int.reduceLE, Int.reduceToNat, Int.reduceEq, Int.reduceAdd, Int.reduceSub, Int.reduceMul, Int.reduceNeg, Nat.reduceMul, Nat.reduceSub, Nat.reduceLeDiff, Nat.reduceLT, Int.reduceGT, Int.reduceGE, Int.reduceBEq, Int.reduceBNe, reduceCtorEq, Nat.reduceAdd]
          intro _
          refine app_own2 (b := 64) hxn (fun h0 => (vr h0).2.2.2.2) hw2 (by omega) (by omega) fun r' a1 a2 => ?_
          have a3 : r' ≠ i3 ∧ r' ≠ i5 ∧ r' ≠ i6 ∧ r' ≠ i7 := by
            by_cases h0 : i = 0
            · have := a1 h0
              refine ⟨fun e => ?_, fun e => ?_, fun e => ?_, fun e => ?_⟩
              · subst e; rw [v3] at this; cases this
              · subst e; rw [v5] at this; cases this
              · subst e; rw [v6] at this; cases this
              · subst e; rw [v7] at this; cases this
            · rw [a2 h0]; exact ⟨(vr h0).1, (vr h0).2.1, (vr h0).2.2.1, (vr h0).2.2.2.1⟩
          obtain ⟨r1, r2, r3, r4⟩ := a3
          have r1' : ¬ i3 = r' := fun e => r1 e.symm
          have r2' : ¬ i5 = r' := fun e => r2 e.symm
          have r3' : ¬ i6 = r' := fun e => r3 e.symm
          have r4' : ¬ i7 = r' := fun e => r4 e.symm
          simp (config := {maxSteps := 1000000}) only [v3, v5, v6, v7, wi, wc, r1, r2, r3, r4, r1', r2', r3', r4', n1, n2, n3, n4, n5, n6, m1, m2, m3, m4, m5, m6, hT_q, tb41n_e, tbLp_e, tbRt_e, tb16n_e, tb48n_e, i_callNe, Int.natCast_nonneg, Nat.le_refl, Int.le_refl, List.take_succ_cons, List.take_zero, decide_true, decide_false, Bool.and_false, Bool.false_and, zz, zzN, zzF, zzD, zzM, cond_true, cond_false, ↓reduceIte, Nat.reduceEqDiff, Nat.reduceBEq, Int.reduceLT, Int.reduceLE, Int.reduceToNat, Int.reduceEq, Int.reduceAdd, Int.reduceSub, Int.reduceMul, Int.reduceNeg, Nat.reduceMul, Nat.reduceSub, Nat.reduceLeDiff, Nat.reduceLT, Int.reduceGT, Int.reduceGE, Int.reduceBEq, Int.reduceBNe, reduceCtorEq, Nat.reduceAdd]
          refine hQ (i + 1, r', _) _ _ ⟨c, ?_, ?_, ?_, ?_, fun _ => ⟨r1, r2, r3, r4, ?_⟩⟩ (by simp only [i_callNe, Int.natCast_nonneg, Nat.le_refl, Int.le_refl, List.take_succ_cons, List.take_zero, decide_true, decide_false, Bool.and_false, Bool.false_and, zz, zzN, zzF, zzD, zzM, cond_true, cond_false, ↓reduceIte, Nat.reduceEqDiff, Nat.reduceBEq, Int.reduceLT, Int.reduceLE, Int.reduceToNat, Int.reduceEq, Int.reduceAdd, Int.reduceSub, Int.reduceMul, Int.reduceNeg, Nat.reduceMul, Nat.reduceSub, Nat.reduceLeDiff, Nat.reduceLT, Int.reduceGT, Int.reduceGE, Int.reduceBEq, Int.reduceBNe, reduceCtorEq, Nat.reduceAdd]) (AHeap.sub_refl _) (by simp only; omega)
          · simp only [AHeap.set_f, r1', m1, m2, m3, m4, m5, m6, v3, ↓reduceIte]
          · simp only [AHeap.set_f, r2', m1, m2, m3, m4, m5, m6, v5, ↓reduceIte]
          · simp only [AHeap.set_f, r3', m1, m2, m3, m4, m5, m6, v6, ↓reduceIte]
          · simp only [AHeap.set_f, r4', v7, ownD_pos (Nat.succ_ne_zero i), ↓reduceIte]
          · simp only [AHeap.set_f, r4, hew, ↓reduceIte]
        · have g2 : (p < ((1 + Nd.cnts (l.take (i + 1)) : Nat) : Int)) = False := eq_false (by omega)
          rw [if_neg (fun h => q2n h.2)] at hRt
          have hw2 : (y).enc.length = 5 ∧ (y).enc.all cellOk = true := ⟨len_enc _, enc_ok _⟩
          have hew : Nd.encs (R (l.take (i + 1)) 1 p) = Nd.encs (R (l.take i) 1 p) ++ [(y).enc] := by rw [hRt, encs_snoc]
          clear hRt hq hR
          generalize y.cnt = yc at *
          obtain ⟨yk, yt, yx, ym, yl⟩ := y
          rw [enc_mk] at *
          simp (config := {maxSteps := 1000000}) only [g, g1, g2, v3, v5, v6, v7, hac, hpy, wi, wc, hqk, enc_unnil, len_encs, n1, n2, n3, n4, n5, n6, m1, m2, m3, m4, m5, m6, hT_q, tb41n_e, tbLp_e, tbRt_e, tb16n_e, tb48n_e, i_callNe, Int.natCast_nonneg, Nat.le_refl, Int.le_refl, List.take_succ_cons, List.take_zero, decide_true, decide_false, Bool.and_false, Bool.false_and, zz, zzN, zzF, zzD, zzM, cond_true, cond_false, ↓reduceIte, Nat.reduceEqDiff, Nat.reduceBEq, Int.reduceLT, Int.reduceLE, Int.reduceToNat, Int.reduceEq, Int.reduceAdd, Int.reduceSub, Int.reduceMul, Int.reduceNeg, Nat.reduceMul, Nat.reduceSub, Nat.reduceLeDiff, Nat.reduceLT, Int.reduceGT, Int.reduceGE, Int.reduceBEq, Int.reduceBNe, reduceCtorEq, Nat.reduceAdd]
          intro _
          refine app_own2 (b := 64) hxn (fun h0 => (vr h0).2.2.2.2) hw2 (by omega) (by omega) fun r' a1 a2 => ?_
          have a3 : r' ≠ i3 ∧ r' ≠ i5 ∧ r' ≠ i6 ∧ r' ≠ i7 := by
            by_cases h0 : i = 0
            · have := a1 h0
              refine ⟨fun e => ?_, fun e => ?_, fun e => ?_, fun e => ?_⟩
              · subst e; rw [v3] at this; cases this
              · subst e; rw [v5] at this; cases this
              · subst e; rw [v6] at this; cases this
              · subst e; rw [v7] at this; cases this
            · rw [a2 h0]; exact ⟨(vr h0).1, (vr h0).2.1, (vr h0).2.2.1, (vr h0).2.2.2.1⟩
          obtain ⟨r1, r2, r3, r4⟩ := a3
          have r1' : ¬ i3 = r' := fun e => r1 e.symm
          have r2' : ¬ i5 = r' := fun e => r2 e.symm
          have r3' : ¬ i6 = r' := fun e => r3 e.symm
          have r4' : ¬ i7 = r' := fun e => r4 e.symm
          simp (config := {maxSteps := 1000000}) only [v3, v5, v6, v7, wi, wc, r1, r2, r3, r4, r1', r2', r3', r4', n1, n2, n3, n4, n5, n6, m1, m2, m3, m4, m5, m6, hT_q, tb41n_e, tbLp_e, tbRt_e, tb16n_e, tb48n_e, i_callNe, Int.natCast_nonneg, Nat.le_refl, Int.le_refl, List.take_succ_cons, List.take_zero, decide_true, decide_false, Bool.and_false, Bool.false_and, zz, zzN, zzF, zzD, zzM, cond_true, cond_false, ↓reduceIte, Nat.reduceEqDiff, Nat.reduceBEq, Int.reduceLT, Int.reduceLE, Int.reduceToNat, Int.reduceEq, Int.reduceAdd, Int.reduceSub, Int.reduceMul, Int.reduceNeg, Nat.reduceMul, Nat.reduceSub, Nat.reduceLeDiff, Nat.reduceLT, Int.reduceGT, Int.reduceGE, Int.reduceBEq, Int.reduceBNe, reduceCtorEq, Nat.reduceAdd]
          refine hQ (i + 1, r', _) _ _ ⟨c, ?_, ?_, ?_, ?_, fun _ => ⟨r1, r2, r3, r4, ?_⟩⟩ (by simp only [i_callNe, Int.natCast_nonneg, Nat.le_refl, Int.le_refl, List.take_succ_cons, List.take_zero, decide_true, decide_false, Bool.and_false, Bool.false_and, zz, zzN, zzF, zzD, zzM, cond_true, cond_false, ↓reduceIte, Nat.reduceEqDiff, Nat.reduceBEq, Int.reduceLT, Int.reduceLE, Int.reduceToNat, Int.reduceEq, Int.reduceAdd, Int.reduceSub, Int.reduceMul, Int.reduceNeg, Nat.reduceMul, Nat.reduceSub, Nat.reduceLeDiff, Nat.reduceLT, Int.reduceGT, Int.reduceGE, Int.reduceBEq, Int.reduceBNe, reduceCtorEq, Nat.reduceAdd]) (AHeap.sub_refl _) (by simp only; omega)
          · simp only [AHeap.set_f, r1', m1, m2, m3, m4, m5, m6, v3, ↓reduceIte]
          · simp only [AHeap.set_f, r2', m1, m2, m3, m4, m5, m6, v5, ↓reduceIte]
          · simp only [AHeap.set_f, r3', m1, m2, m3, m4, m5, m6, v6, ↓reduceIte]
          · simp only [AHeap.set_f, r4', v7, ownD_pos (Nat.succ_ne_zero i), ↓reduceIte]
          · simp only [AHeap.set_f, r4, hew, ↓reduceIte]
      · have g1 : (p ≥ (at0 : Int)) = False := eq_false q1n
        rw [if_neg (fun h => q1n h.1)] at hRt
        have hw2 : (y).enc.length = 5 ∧ (y).enc.all cellOk = true := ⟨len_enc _, enc_ok _⟩
        have hew : Nd.encs (R (l.take (i + 1)) 1 p) = Nd.encs (R (l.take i) 1 p) ++ [(y).enc] := by rw [hRt, encs_snoc]
        clear hRt hq hR
        generalize y.cnt = yc at *
        obtain ⟨yk, yt, yx, ym, yl⟩ := y
        rw [enc_mk] at *
        simp (config := {maxSteps := 1000000}) only [g, g1, v3, v5, v6, v7, hac, hpy, wi, wc, hqk, enc_unnil, len_encs, n1, n2, n3, n4, n5, n6, m1, m2, m3, m4, m5, m6, hT_q, tb41n_e, tbLp_e, tbRt_e, tb16n_e, tb48n_e, i_callNe, Int.natCast_nonneg, Nat.le_refl, Int.le_refl, List.take_succ_cons, List.take_zero, decide_true, decide_false, Bool.and_false, Bool.false_and, zz, zzN, zzF, zzD, zzM, cond_true, cond_false, ↓reduceIte, Nat.reduceEqDiff, Nat.reduceBEq, Int.reduceLT, Int.reduceLE, Int.reduceToNat, Int.reduceEq, Int.reduceAdd, Int.reduceSub, Int.reduceMul, Int.reduceNeg, Nat.reduceMul, Nat.reduceSub, Nat.reduceLeDiff, Nat.reduceLT, Int.reduceGT, Int.reduceGE, Int.reduceBEq, Int.reduceBNe, reduceCtorEq, Nat.reduceAdd]
        intro _
        refine app_own2 (b := 64) hxn (fun h0 => (vr h0).2.2.2.2) hw2 (by omega) (by omega) fun r' a1 a2 => ?_
        have a3 : r' ≠ i3 ∧ r' ≠ i5 ∧ r' ≠ i6 ∧ r' ≠ i7 := by
          by_cases h0 : i = 0
          · have := a1 h0
            refine ⟨fun e => ?_, fun e => ?_, fun e => ?_, fun e => ?_⟩
            · subst e; rw [v3] at this; cases this
            · subst e; rw [v5] at this; cases this
            · subst e; rw [v6] at this; cases this
            · subst e; rw [v7] at this; cases this
          · rw [a2 h0]; exact ⟨(vr h0).1, (vr h0).2.1, (vr h0).2.2.1, (vr h0).2.2.2.1⟩
        obtain ⟨r1, r2, r3, r4⟩ := a3
        have r1' : ¬ i3 = r' := fun e => r1 e.symm
        have r2' : ¬ i5 = r' := fun e => r2 e.symm
        have r3' : ¬ i6 = r' := fun e => r3 e.symm
        have r4' : ¬ i7 = r' := fun e => r4 e.symm
        simp (config := {maxSteps := 1000000}) only [v3, v5, v6, v7, wi, wc, r1, r2, r3, r4, r1', r2', r3', r4', n1, n2, n3, n4, n5, n6, m1, m2, m3, m4, m5, m6, hT_q, tb41n_e, tbLp_e, tbRt_e, tb16n_e, tb48n_e, i_callNe, Int.natCast_nonneg, Nat.le_refl, Int.le_refl, List.take_succ_cons, List.take_zero, decide_true, decide_false, Bool.and_false, Bool.false_and, zz, zzN, zzF, zzD, zzM, cond_true, cond_false, ↓reduceIte, Nat.reduceEqDiff, Nat.reduceBEq, Int.reduceLT, Int.reduceLE, Int.reduceToNat, Int.reduceEq, Int.reduceAdd, Int.reduceSub, Int.reduceMul, Int.reduceNeg, Nat.reduceMul, Nat.reduceSub, Nat.reduceLeDiff, Nat.reduceLT, Int.reduceGT, Int.reduceGE, Int.reduceBEq, Int.reduceBNe, reduceCtorEq, Nat.reduceAdd]
        refine hQ (i + 1, r', _) _ _ ⟨c, ?_, ?_, ?_, ?_, fun _ => ⟨r1, r2, r3, r4, ?_⟩⟩ (by simp only [i_callNe, Int.natCast_nonneg, Nat.le_refl, Int.le_refl, List.take_succ_cons, List.take_zero, decide_true, decide_false, Bool.and_false, Bool.false_and, zz, zzN, zzF, zzD, zzM, cond_true, cond_false, ↓reduceIte, Nat.reduceEqDiff, Nat.reduceBEq, Int.reduceLT, Int.reduceLE, Int.reduceToNat, Int.reduceEq, Int.reduceAdd, Int.reduceSub, Int.reduceMul, Int.reduceNeg, Nat.reduceMul, Nat.reduceSub, Nat.reduceLeDiff, Nat.reduceLT, Int.reduceGT, Int.reduceGE, Int.reduceBEq, Int.reduceBNe, reduceCtorEq, Nat.reduceAdd]) (AHeap.sub_refl _) (by simp only; omega)
        · simp only [AHeap.set_f, r1', m1, m2, m3, m4, m5, m6, v3, ↓reduceIte]
        · simp only [AHeap.set_f, r2', m1, m2, m3, m4, m5, m6, v5, ↓reduceIte]
        · simp only [AHeap.set_f, r3', m1, m2, m3, m4, m5, m6, v6, ↓reduceIte]
        · simp only [AHeap.set_f, r4', v7, ownD_pos (Nat.succ_ne_zero i), ↓reduceIte]
        · simp only [AHeap.set_f, r4, hew, ↓reduceIte]
end
end Go.Proofs.YthpgepillaeldaaDoor.Zz
