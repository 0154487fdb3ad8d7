/- Contracts: the node at a place; are nodes gone over by their places? -/
import Derived.Test.YtpagdhbmbnoddaaGreatDoorZA17
set_option linter.unnecessarySimpa false
namespace Go.Proofs.YtpagdhbmbnoddaaGreatDoor.Zz
noncomputable section
set_option linter.unusedVariables false
set_option linter.unusedSimpArgs false
set_option maxRecDepth 20000
def p22t : Plan := ⟨⟨[], [(1, 1)], [], [], [], []⟩, [], [], false⟩
/-- cupel/ast.At (2 parameters, 0 captured) -/
def s22t : Stm :=
 .seq (.ops [⟨.box (.t 0), (some 2), none, false⟩,
 ⟨.box (.t 1), (some 3), none, false⟩,
 ⟨.alloc [(.int .i64 0), (.int .i64 0), (.str []), (.int .i64 0), .nilsl], (some 4), none, false⟩,
 ⟨.alloc [(.bool false)], (some 5), none, false⟩])
 (.seq (.seq (.ops [⟨.load (some 5) (.t 2), (some 8), none, false⟩,
 ⟨.call (.f 22) [(.t 8)], (some 9), none, false⟩])
 (.block 0 (.rangeF (.t 9) [10, 11]
 (.seq (.ops [⟨.mov (.t 10), (some 6), none, true⟩])
 (.ops [⟨.alloc [(.int .i64 0), (.int .i64 0), (.str []), (.int .i64 0), .nilsl], (some 7), none, false⟩,
 ⟨.store 5 (.t 7) (.t 11), none, none, false⟩]))
 (.block 1 (.seq (.ops [⟨.mov (.t 6), (some 12), none, true⟩,
 ⟨.load none (.t 3), (some 13), none, false⟩,
 ⟨.bin .eql (.t 12) (.t 13), (some 14), none, true⟩])
 (.cond (.t 14)
 (.seq (.ops [⟨.load (some 5) (.t 7), (some 15), none, false⟩,
 ⟨.store 5 (.t 4) (.t 15), none, none, false⟩,
 ⟨.store 1 (.t 5) (.c (.bool true)), none, none, false⟩])
 (.ret))
 (.skip)))))))
 (.seq (.ops [⟨.build [(.int .i64 0), (.int .i64 0), (.str []), (.int .i64 0), .nilsl] [], (some 16), none, true⟩,
 ⟨.store 5 (.t 4) (.t 16), none, none, false⟩,
 ⟨.store 1 (.t 5) (.c (.bool false)), none, none, false⟩])
 (.ret)))
theorem st22t : stmOf Tryz.prog 11 p22t = some (s22t, [.cell 4 (some 5), .cell 5 none], 17) := by kernel_rfl

def zeroNd : Nd := .mk 0 0 [] 0 []
def atF (n : Nd) (p : Int) : Option Nd := if 0 ≤ p then (listF n)[p.toNat]? else none
theorem at_c (n : Nd) (p : Int) (hn : n.cnt ≤ 100000000) : PCall Tryz.prog 11 [.agg n.enc, .int .i64 p] (.tuple [.agg ((atF n p).getD zeroNd).enc, .bool (atF n p).isSome]) := by
  refine ACalls.of_stmD tbR_ok (dc := DTab.none) (fun _ _ => DTab.none_ok) (by kernel_rfl) st22t (by simp) ?_
  have hTr := tbR_r
  rw [vc_todo]
  obtain ⟨k, t, s, m, kids⟩ := n
  rw [enc_mk]
  simp (config := {maxSteps := 1000000}) only [s22t, tbR_e, retS_ret, zzK, seval]
  intro i1  i2 a2_1 b2_1 i3 a3_2 b3_2 a3_1 b3_1 i4 a4_3 b4_3 a4_2 b4_2 a4_1 b4_1
  simp (config := {maxSteps := 1000000}) only [a2_1, b2_1, a3_2, b3_2, a3_1, b3_1, a4_3, b4_3, a4_2, b4_2, a4_1, b4_1, s46r, tbR_e, retS_ret, zzK, seval]
  intro i5 a5_4 b5_4 a5_3 b5_3 a5_2 b5_2 a5_1 b5_1
  refine run_rangeF (f := 42) (first := []) (cap := [.ptr i5 1 0]) (by simp only [zzK, seval]) fun l r rd hr hrd hne => ?_
  have n_i1 : ¬ r = i1 := fun e => by subst e; simp [a2_1, b2_1, a3_2, b3_2, a3_1, b3_1, a4_3, b4_3, a4_2, b4_2, a4_1, b4_1, a5_4, b5_4, a5_3, b5_3, a5_2, b5_2, a5_1, b5_1] at hr
  have n_i1' : ¬ i1 = r := fun e => n_i1 e.symm
  have d_i1 : ¬ rd = i1 := fun e => by subst e; simp [a2_1, b2_1, a3_2, b3_2, a3_1, b3_1, a4_3, b4_3, a4_2, b4_2, a4_1, b4_1, a5_4, b5_4, a5_3, b5_3, a5_2, b5_2, a5_1, b5_1] at hrd
  have d_i1' : ¬ i1 = rd := fun e => d_i1 e.symm
  have n_i2 : ¬ r = i2 := fun e => by subst e; simp [a2_1, b2_1, a3_2, b3_2, a3_1, b3_1, a4_3, b4_3, a4_2, b4_2, a4_1, b4_1, a5_4, b5_4, a5_3, b5_3, a5_2, b5_2, a5_1, b5_1] at hr
  have n_i2' : ¬ i2 = r := fun e => n_i2 e.symm
  have d_i2 : ¬ rd = i2 := fun e => by subst e; simp [a2_1, b2_1, a3_2, b3_2, a3_1, b3_1, a4_3, b4_3, a4_2, b4_2, a4_1, b4_1, a5_4, b5_4, a5_3, b5_3, a5_2, b5_2, a5_1, b5_1] at hrd
  have d_i2' : ¬ i2 = rd := fun e => d_i2 e.symm
  have n_i3 : ¬ r = i3 := fun e => by subst e; simp [a2_1, b2_1, a3_2, b3_2, a3_1, b3_1, a4_3, b4_3, a4_2, b4_2, a4_1, b4_1, a5_4, b5_4, a5_3, b5_3, a5_2, b5_2, a5_1, b5_1] at hr
  have n_i3' : ¬ i3 = r := fun e => n_i3 e.symm
  have d_i3 : ¬ rd = i3 := fun e => by subst e; simp [a2_1, b2_1, a3_2, b3_2, a3_1, b3_1, a4_3, b4_3, a4_2, b4_2, a4_1, b4_1, a5_4, b5_4, a5_3, b5_3, a5_2, b5_2, a5_1, b5_1] at hrd
  have d_i3' : ¬ i3 = rd := fun e => d_i3 e.symm
  have n_i4 : ¬ r = i4 := fun e => by subst e; simp [a2_1, b2_1, a3_2, b3_2, a3_1, b3_1, a4_3, b4_3, a4_2, b4_2, a4_1, b4_1, a5_4, b5_4, a5_3, b5_3, a5_2, b5_2, a5_1, b5_1] at hr
  have n_i4' : ¬ i4 = r := fun e => n_i4 e.symm
  have d_i4 : ¬ rd = i4 := fun e => by subst e; simp [a2_1, b2_1, a3_2, b3_2, a3_1, b3_1, a4_3, b4_3, a4_2, b4_2, a4_1, b4_1, a5_4, b5_4, a5_3, b5_3, a5_2, b5_2, a5_1, b5_1] at hrd
  have d_i4' : ¬ i4 = rd := fun e => d_i4 e.symm
  have n_i5 : ¬ r = i5 := fun e => by subst e; simp [a2_1, b2_1, a3_2, b3_2, a3_1, b3_1, a4_3, b4_3, a4_2, b4_2, a4_1, b4_1, a5_4, b5_4, a5_3, b5_3, a5_2, b5_2, a5_1, b5_1] at hr
  have n_i5' : ¬ i5 = r := fun e => n_i5 e.symm
  have d_i5 : ¬ rd = i5 := fun e => by subst e; simp [a2_1, b2_1, a3_2, b3_2, a3_1, b3_1, a4_3, b4_3, a4_2, b4_2, a4_1, b4_1, a5_4, b5_4, a5_3, b5_3, a5_2, b5_2, a5_1, b5_1] at hrd
  have d_i5' : ¬ i5 = rd := fun e => d_i5 e.symm
  have hne' : ¬ rd = r := fun e => hne e.symm
  rw [tbR_r, if_pos rfl]
  refine ⟨.mk k t s m kids, i5, rfl, by simp [n_i5', d_i5', enc_mk], hn, ?_⟩
  refine YI_ind (roundY_mono _ _ _ _ _) (fun i hh => (p < 0 ∨ (i : Int) ≤ p) ∧ hh.f i2 = some (.cells [.int .i64 p]) ∧ hh.f i3 = some (.cells [.int .i64 0, .int .i64 0, .str [], .int .i64 0, .nilsl]) ∧ hh.f i4 = some (.cells [.bool false]) ∧ hh.f r = some (.lp (.done .normal)) ∧ hh.f rd = some .dfr) _ ?_ ?_ _ 0 _ rfl (Nat.zero_le _) ⟨by simp; omega, by simp [a2_1, b2_1, a3_2, b3_2, a3_1, b3_1, a4_3, b4_3, a4_2, b4_2, a4_1, b4_1, a5_4, b5_4, a5_3, b5_3, a5_2, b5_2, a5_1, b5_1, n_i2', d_i2'], by simp [a2_1, b2_1, a3_2, b3_2, a3_1, b3_1, a4_3, b4_3, a4_2, b4_2, a4_1, b4_1, a5_4, b5_4, a5_3, b5_3, a5_2, b5_2, a5_1, b5_1, n_i3', d_i3'], by simp [a2_1, b2_1, a3_2, b3_2, a3_1, b3_1, a4_3, b4_3, a4_2, b4_2, a4_1, b4_1, a5_4, b5_4, a5_3, b5_3, a5_2, b5_2, a5_1, b5_1, n_i4', d_i4'], by simp, by simp [hne']⟩
  · rintro i x hh hx ⟨v1, v2, v3, v4, v5, v6⟩
    rw [round2]
    refine ⟨v5, ?_⟩
    have hx5 := len_enc x
    obtain ⟨xk, xt, xs, xm, xl⟩ := x
    rw [enc_mk] at *
    simp (config := {maxSteps := 1000000}) only [v2, v3, v4, v5, v6, asgK_normal, tbR_e, tb46r_e, zzK, seval]
    intro i7 f7
    have m_i2 : ¬ i7 = i2 := fun e => by subst e; rw [v2] at f7; cases f7
    have m_i2' : ¬ i2 = i7 := fun e => m_i2 e.symm
    have m_i3 : ¬ i7 = i3 := fun e => by subst e; rw [v3] at f7; cases f7
    have m_i3' : ¬ i3 = i7 := fun e => m_i3 e.symm
    have m_i4 : ¬ i7 = i4 := fun e => by subst e; rw [v4] at f7; cases f7
    have m_i4' : ¬ i4 = i7 := fun e => m_i4 e.symm
    have m_r : ¬ i7 = r := fun e => by subst e; rw [v5] at f7; cases f7
    have m_r' : ¬ r = i7 := fun e => m_r e.symm
    have m_rd : ¬ i7 = rd := fun e => by subst e; rw [v6] at f7; cases f7
    have m_rd' : ¬ rd = i7 := fun e => m_rd e.symm
    have hxi : (listF (.mk k t s m kids))[i]? = some (.mk xk xt xs xm xl) := hx
    cases c : ((i : Int) == p) with
    | false =>
      have c' : ¬ (i : Int) = p := by simpa using c
      simp (config := {maxSteps := 1000000}) only [c, v2, v3, v4, v5, v6, m_i2, m_i2', m_i3, m_i3', m_i4, m_i4', m_r, m_r', m_rd, m_rd', n_i2, n_i2', n_i3, n_i3', n_i4, n_i4', d_i2, d_i2', d_i3, d_i3', d_i4, d_i4', hne, hne', a2_1, b2_1, a3_2, b3_2, a3_1, b3_1, a4_3, b4_3, a4_2, b4_2, a4_1, b4_1, a5_4, b5_4, a5_3, b5_3, a5_2, b5_2, a5_1, b5_1, bodyK_eq, Ex.code, Option.isNone_none, AHeap.del_f, true_and, tbR_e, tb46r_e, zzK, seval]
      have c2t : p < 0 ∨ (i : Int) ≤ p := v1
      show p < 0 ∨ ((i + 1 : Nat) : Int) ≤ p
      omega
    | true =>
      have c' : (i : Int) = p := by simpa using c
      simp (config := {maxSteps := 1000000}) only [c, v2, v3, v4, v5, v6, m_i2, m_i2', m_i3, m_i3', m_i4, m_i4', m_r, m_r', m_rd, m_rd', n_i2, n_i2', n_i3, n_i3', n_i4, n_i4', d_i2, d_i2', d_i3, d_i3', d_i4, d_i4', hne, hne', a2_1, b2_1, a3_2, b3_2, a3_1, b3_1, a4_3, b4_3, a4_2, b4_2, a4_1, b4_1, a5_4, b5_4, a5_3, b5_3, a5_2, b5_2, a5_1, b5_1, bodyK_eq, Ex.code, Option.isNone_some, AHeap.del_f, true_and, tbR_e, tb46r_e, zzK, seval]
      refine rangeK_done (e := .ret) (by simp) ?_
      have hyes : atF (.mk k t s m kids) p = some (.mk xk xt xs xm xl) := by
        unfold atF
        rw [if_pos (by omega), ← c']
        exact hxi
      rw [hyes]
      simp (config := {maxSteps := 1000000}) only [v2, v3, v4, v5, v6, m_i2, m_i2', m_i3, m_i3', m_i4, m_i4', m_r, m_r', m_rd, m_rd', n_i2, n_i2', n_i3, n_i3', n_i4, n_i4', d_i2, d_i2', d_i3, d_i3', d_i4, d_i4', hne, hne', a2_1, b2_1, a3_2, b3_2, a3_1, b3_1, a4_3, b4_3, a4_2, b4_2, a4_1, b4_1, a5_4, b5_4, a5_3, b5_3, a5_2, b5_2, a5_1, b5_1, AHeap.del_f, retD_ret, leav_mark, leav_nil, finD, Option.getD_some, Option.isSome_some, enc_mk, zzK, seval]
      exact .inr ⟨_, AHeap.sub_refl _⟩
  · rintro hh ⟨v1, v2, v3, v4, v5, v6⟩
    refine rangeK_done v5 ?_
    have hno : atF (.mk k t s m kids) p = none := by
      unfold atF
      have v7 : p < 0 ∨ ((listF (.mk k t s m kids)).length : Int) ≤ p := v1
      split
      · rw [List.getElem?_eq_none]; omega
      · rfl
    rw [hno]
    simp (config := {maxSteps := 1000000}) only [v2, v3, v4, v5, v6, n_i2, n_i2', n_i3, n_i3', n_i4, n_i4', d_i2, d_i2', d_i3, d_i3', d_i4, d_i4', hne, hne', a2_1, b2_1, a3_2, b3_2, a3_1, b3_1, a4_3, b4_3, a4_2, b4_2, a4_1, b4_1, a5_4, b5_4, a5_3, b5_3, a5_2, b5_2, a5_1, b5_1, AHeap.del_f, retD_ret, leav_mark, leav_nil, finD, Option.getD_none, Option.isSome_none, zeroNd, enc_mk, encs_nil, zzK, seval]
    exact .inr ⟨_, AHeap.sub_refl _⟩
end
end Go.Proofs.YtpagdhbmbnoddaaGreatDoor.Zz
/- Contracts: all mutants of a program, one behind the other. -/
namespace Go.Proofs.YtpagdhbmbnoddaaGreatDoor.Zz
noncomputable section
set_option linter.unusedVariables false
set_option linter.unusedSimpArgs false
set_option maxRecDepth 20000
def p22m : Plan := ⟨⟨[], [], [], [], [], []⟩, [], [], false⟩
/-- cupel/ast.All (1 parameters, 0 captured) -/
def s22m : Stm :=
 .seq (.ops [⟨.box (.t 0), (some 1), none, false⟩,
 ⟨.mov (.c .nilfunc), (some 2), none, true⟩])
 (.seq (.ops [⟨.mkFunc (.func 42) [] [(.t 1)], (some 3), none, true⟩,
 ⟨.mov (.t 3), (some 2), none, true⟩])
 (.ret))
theorem st22m : stmOf Tryz.prog 22 p22m = some (s22m, [.tmp 2], 4) := by kernel_rfl

def p41m : Plan := ⟨⟨[], [(6, 1), (13, 9)], [], [], [], []⟩, [], [], false⟩
/-- cupel/mutate.All$1 (1 parameters, 1 captured) -/
def s41m : Stm :=
 .seq (.ops [⟨.box (.t 0), (some 2), none, false⟩])
 (.seq (.ops [⟨.alloc [(.int .i64 0)], (some 3), none, false⟩,
 ⟨.store 1 (.t 3) (.c (.int .i64 400)), none, none, false⟩])
 (.seq (.ops [⟨.fieldAddr 4 (.t 1), (some 9), none, true⟩,
 ⟨.load none (.t 9), (some 10), none, false⟩,
 ⟨.len .sl (.t 10), (some 11), none, false⟩,
 ⟨.mov (.c (.int .i64 0)), (some 12), none, true⟩])
 (.block 0 (.loop (.seq (.ops [⟨.bin .lss (.t 12) (.t 11), (some 13), none, true⟩])
 (.seq (.cond (.t 13)
 (.skip)
 (.exit 0))
 (.seq (.block 1 (.seq (.ops [⟨.indexAddrS 5 (.t 10) (.t 12), (some 14), none, false⟩,
 ⟨.load (some 5) (.t 14), (some 15), none, false⟩,
 ⟨.alloc [(.int .i64 0), (.int .i64 0), (.str []), (.int .i64 0), .nilsl], (some 5), none, false⟩,
 ⟨.store 5 (.t 5) (.t 15), none, none, false⟩])
 (.seq (.seq (.ops [⟨.fieldAddr 0 (.t 5), (some 16), none, true⟩,
 ⟨.load none (.t 16), (some 17), none, false⟩,
 ⟨.bin .neq (.t 17) (.c (.int .i64 3)), (some 18), none, true⟩])
 (.cond (.t 18)
 (.exit 1)
 (.skip)))
 (.seq (.ops [⟨.load (some 5) (.t 5), (some 19), none, false⟩,
 ⟨.call (.f 22) [(.t 19)], (some 20), none, false⟩])
 (.block 2 (.rangeF (.t 20) [21, 22]
 (.seq (.ops [⟨.mov (.t 21), (some 6), none, true⟩])
 (.ops [⟨.alloc [(.int .i64 0), (.int .i64 0), (.str []), (.int .i64 0), .nilsl], (some 7), none, false⟩,
 ⟨.store 5 (.t 7) (.t 22), none, none, false⟩]))
 (.block 3 (.seq (.ops [⟨.load (some 5) (.t 7), (some 23), none, false⟩,
 ⟨.qcall (.f 19) [(.t 23)], (some 24), none, false⟩,
 ⟨.len .sl (.t 24), (some 25), none, false⟩,
 ⟨.mov (.c (.int .i64 0)), (some 26), none, true⟩])
 (.block 4 (.loop (.seq (.ops [⟨.bin .lss (.t 26) (.t 25), (some 27), none, true⟩])
 (.seq (.cond (.t 27)
 (.skip)
 (.exit 4))
 (.seq (.block 5 (.seq (.ops [⟨.mov (.t 26), (some 28), none, true⟩,
 ⟨.mov (.t 28), (some 8), none, true⟩])
 (.seq (.ops [⟨.load none (.t 3), (some 29), none, false⟩,
 ⟨.bin .sub (.t 29) (.c (.int .i64 1)), (some 30), none, true⟩,
 ⟨.store 1 (.t 3) (.t 30), none, none, false⟩])
 (.seq (.ops [⟨.load none (.t 3), (some 31), none, false⟩,
 ⟨.bin .lss (.t 31) (.c (.int .i64 0)), (some 32), none, true⟩,
 ⟨.mov (.t 32), (some 33), none, true⟩,
 ⟨.load none (.t 2), (some 34), (some (33, false)), false⟩,
 ⟨.fieldAddr 2 (.t 5), (some 35), (some (33, false)), true⟩,
 ⟨.load none (.t 35), (some 36), (some (33, false)), false⟩,
 ⟨.mov (.t 6), (some 37), (some (33, false)), true⟩,
 ⟨.mov (.t 8), (some 38), (some (33, false)), true⟩,
 ⟨.build [(.str []), (.int .i64 0), (.int .i64 0)] [(0, 1, (.t 36)), (1, 1, (.t 37)), (2, 1, (.t 38))], (some 39), (some (33, false)), true⟩,
 ⟨.call (.t 34) [(.t 39)], (some 40), (some (33, false)), false⟩,
 ⟨.un .not (.t 40), (some 41), (some (33, false)), true⟩,
 ⟨.pick (.t 33) (.c (.bool true)) (.t 41), (some 42), none, true⟩])
 (.cond (.t 42)
 (.ret)
 (.skip))))))
 (.ops [⟨.bin .add (.t 26) (.c (.int .i64 1)), (some 43), none, true⟩,
 ⟨.mov (.t 43), (some 26), none, true⟩]))))))))))))))
 (.ops [⟨.bin .add (.t 12) (.c (.int .i64 1)), (some 44), none, true⟩,
 ⟨.mov (.t 44), (some 12), none, true⟩]))))))))
theorem st41m : stmOf Tryz.prog 41 p41m = some (s41m, [], 45) := by kernel_rfl

abbrev Mut := List UInt8 × Int × Int
def encMu (m : Mut) : List D := [.str m.1, .int .i64 m.2.1, .int .i64 m.2.2]
def mutsN (f : List UInt8) (a : Int) (n : Nat) (k : Nat) : List Mut := (List.range (n - k)).map fun i => (f, a, ((k + i : Nat) : Int))
theorem mutsN_end (f : List UInt8) (a : Int) (n : Nat) : mutsN f a n n = [] := by simp [mutsN]
theorem mutsN_step (f : List UInt8) (a : Int) (n k : Nat) (h : k < n) : mutsN f a n k = (f, a, (k : Int)) :: mutsN f a n (k + 1) := by
  unfold mutsN
  rw [show n - k = (n - (k + 1)) + 1 by omega, List.range_succ_eq_map]
  simp only [List.map_cons, List.map_map, Nat.add_zero]
  congr 1
  refine List.map_congr_left fun i _ => ?_
  simp only [Function.comp]
  rw [show k + (i + 1) = k + 1 + i by omega]
def mutsL (f : List UInt8) : Int → List Nd → List Mut
  | _, [] => []
  | a, x :: l => mutsN f a (turnsF x).length 0 ++ mutsL f (a + 1) l
def Nd.strOf : Nd → List UInt8
  | .mk _ _ s _ _ => s
def Nd.kinds : Nd → List Nd
  | .mk _ _ _ _ l => l
/-- All mutants of declarations. -/
def allM : List Nd → List Mut
  | [] => []
  | d :: l => (if d.kind = 3 then mutsL d.strOf 0 (listF d) else []) ++ allM l
theorem allM_fn (t : Int) (s : List UInt8) (m : Int) (k : List Nd) (l : List Nd) : allM (.mk 3 t s m k :: l) = mutsL s 0 (listF (.mk 3 t s m k)) ++ allM l := by simp [allM, Nd.kind, Nd.strOf]
theorem allM_no {q t : Int} {s : List UInt8} {m : Int} {k : List Nd} {l : List Nd} (h : q ≠ 3) : allM (.mk q t s m k :: l) = allM l := by simp [allM, Nd.kind, h]
def listM (p : Nd) : List Mut := (allM p.kinds).take 400
/-- What rounds do with mutants. -/
def YM (Y : List D → AHeap → (D → AHeap → Prop) → Prop) : List Mut → AHeap → (AHeap → Prop) → Prop
  | [], h, K => K h
  | m :: l, h, K => Y [.agg (encMu m)] h fun d h' => ∃ b, d = .bool b ∧ (b = true → YM Y l h' K) ∧ (b = false → K h')
theorem YM_mono {Y Y' : List D → AHeap → (D → AHeap → Prop) → Prop} (hY : ∀ args h (K K' : D → AHeap → Prop), (∀ d h, K d h → K' d h) → Y args h K → Y' args h K') : ∀ (l : List Mut) (h : AHeap) (K K' : AHeap → Prop), (∀ h, K h → K' h) → YM Y l h K → YM Y' l h K'
  | [], h, K, K', hk, x => hk _ x
  | m :: l, h, K, K', hk, y => hY _ _ _ _ (fun d h' ⟨b, e1, e2, e3⟩ => ⟨b, e1, fun e => YM_mono hY l _ K K' hk (e2 e), fun e => hk _ (e3 e)⟩) y
theorem YM_nil {Y} {h : AHeap} {K : AHeap → Prop} : YM Y [] h K = K h := rfl
theorem YM_cons {Y} {m : Mut} {l : List Mut} {h : AHeap} {K : AHeap → Prop} : YM Y (m :: l) h K = Y [.agg (encMu m)] h fun d h' => ∃ b, d = .bool b ∧ (b = true → YM Y l h' K) ∧ (b = false → K h') := rfl
/-- A range over all mutants of a program. -/
def rMut (l : Nat) (Y : List D → AHeap → (D → AHeap → Prop) → Prop) (args : List D) (h : AHeap) (K : D → AHeap → Prop) : Prop :=
  ∃ (p : Nd) (id : Nat), args = [.func (.yield l) [] [], .ptr id 1 0] ∧ h.f id = some (.cells p.enc) ∧ p.cnt ≤ 100000000 ∧ YM Y (listM p) h fun h' => K (.tuple []) h'
theorem rMut_mono (l : Nat) (Y Y' : List D → AHeap → (D → AHeap → Prop) → Prop) (args : List D) (h : AHeap) (K K' : D → AHeap → Prop) (hY : ∀ args h (K K' : D → AHeap → Prop), (∀ d h, K d h → K' d h) → Y args h K → Y' args h K') (hk : ∀ d h, K d h → K' d h) (x : rMut l Y args h K) : rMut l Y' args h K' := by
  obtain ⟨n, id, e1, e2, e3, y⟩ := x
  exact ⟨n, id, e1, e2, e3, YM_mono hY _ _ _ _ (fun _ k => hk _ _ k) y⟩
def tn19 : Tab := Tab.zero.addQ 19 q19m
theorem tn19_q (g : FuncId) (args : List D) : tn19.q g args = if g = 19 then q19m args else Tab.zero.q g args := rfl
theorem tn19_a : tn19.a = Tab.zero.a := rfl
theorem tn19_c : tn19.c = Tab.zero.c := rfl
theorem tn19_ok : tn19.ok Tryz.prog := Tab.addQ_ok (Tab.zero_ok _) q19m_ok
theorem tn19_e : type_of% (And.intro @tn19_q (And.intro @tn19_a @tn19_c)) := (And.intro @tn19_q (And.intro @tn19_a @tn19_c))

def tn22 : Tab := tn19.addS 22 s22m [.tmp 2] 4
theorem tn22_q : tn22.q = tn19.q := rfl
theorem tn22_a : tn22.a = tn19.a := rfl
theorem tn22_c (g : FuncId) (args : List D) (h : AHeap) (K E : D → AHeap → Prop) : tn22.c g args h K E = if g = 22 then (args.length ≤ 4 ∧ vc tn19 s22m (todo tn19 (retS [.tmp 2] K) (panS E) []) (panS E) (argFr args) h) else tn19.c g args h K E := rfl
theorem tn22_ok : tn22.ok Tryz.prog := Tab.addS_ok tn19_ok st22m
theorem tn22_e : type_of% (And.intro (And.intro @tn22_q (And.intro @tn22_a @tn22_c)) @tn19_e) := (And.intro (And.intro @tn22_q (And.intro @tn22_a @tn22_c)) @tn19_e)

def tbN : Tab := tn22.addR 42 rAll rAll_mono
theorem tbN_ok : tbN.ok Tryz.prog := Tab.addR_ok tn22_ok fun l Y args h K κ w hY hs x => rAll_ok l Y args h K κ w hY hs x
def tbNY (l : Nat) (Y : List D → AHeap → (D → AHeap → Prop) → Prop) (hY : YMono Y) : Tab := tbN.addY l Y hY
theorem tbNY_q (l : Nat) (Y) (hY : YMono Y) : (tbNY l Y hY).q = tn22.q := rfl
theorem tbNY_a (l : Nat) (Y) (hY : YMono Y) : (tbNY l Y hY).a = tn22.a := rfl
theorem tbNY_c (l : Nat) (Y) (hY : YMono Y) : (tbNY l Y hY).c = tn22.c := rfl
theorem tbNY_y (l : Nat) (Y) (hY : YMono Y) (xs : List D) (h : AHeap) (K : D → AHeap → Prop) : (tbNY l Y hY).y l xs h K = Y xs h K := if_pos rfl
theorem tbNY_r (l : Nat) (Y) (hY : YMono Y) (g : FuncId) (l' : Nat) (Z : List D → AHeap → (D → AHeap → Prop) → Prop) (xs : List D) (h : AHeap) (K : D → AHeap → Prop) : (tbNY l Y hY).r g l' Z xs h K = if g = 42 then rAll l' Z xs h K else tn22.r g l' Z xs h K := rfl
theorem run_loopX {T : Tab} {K : Ex → Fr → AHeap → Prop} {E : Fr → D → AHeap → Prop} {σ : Fr} {h : AHeap} {s : Stm} {k : List Item} {X : Type} (ds : X → List DDef) (F : X → List (Nat × D)) (H : X → AHeap) (μ : X → Nat) (I : X → Prop) (x0 : X) (h1 : I x0) (h2 : leD (ds x0) (F x0) σ) (h3 : (H x0).sub h)
    (h4 : ∀ (x : X) (Q : Fr → AHeap → Prop), I x → (∀ x' σ' h', I x' → leD (ds x') (F x') σ' → (H x').sub h' → μ x' < μ x → Q σ' h') → vc T s (todo T K E (.lp Q :: k)) E (mkFrD (F x) (ds x)) (H x)) : vc T (.loop s) (todo T K E k) E σ h := by
  refine ⟨X, fun x => mkFrD (F x) (ds x), H, μ, I, x0, h1, leD_le h2, h3, fun x hx => ?_⟩
  refine vc_mono (fun e σ' h' kk => ?_) (fun _ _ _ kk => kk) (h4 x (fun σ' h' => ∃ x', I x' ∧ leD (ds x') (F x') σ' ∧ (H x').sub h' ∧ μ x' < μ x) hx fun x' σ' h' a b c d => ⟨x', a, b, c, d⟩)
  cases e with
  | normal => obtain ⟨x', a, b, c⟩ := kk; exact ⟨x', a, leD_le b, c⟩
  | _ => exact kk
/-- Marks of ranges over functions. -/
def marks (rds : List Nat) : List (Nat × AObj) := rds.map fun r => (r, .dfr)
def markD (rds : List Nat) : List DDef := rds.map fun r => ⟨.yield r, [], []⟩
theorem leav_marks {dc : DTab} {F : Option D → AHeap → Prop} {hY : AHeap} : ∀ (rds : List Nat) (hh : AHeap), hY.sub hh → (∀ r ∈ rds, hY.f r = none ∧ hh.f r = some .dfr) → rds.Nodup → (∀ h', hY.sub h' → F none h') → leav dc (markD rds) none hh F
  | [], hh, a, b, c, d => d _ a
  | r :: rds, hh, a, b, c, d => by
    show leav dc (⟨.yield r, [], []⟩ :: markD rds) none hh F
    rw [leav_mark]
    obtain ⟨b1, b2⟩ := b r (by simp)
    rw [List.nodup_cons] at c
    refine ⟨b2, leav_marks rds _ (fun q o hq => ?_) (fun q hq => ⟨(b q (by simp [hq])).1, ?_⟩) c.2 d⟩
    · have : q ≠ r := fun e => by subst e; rw [b1] at hq; cases hq
      simp [this, a q o hq]
    · have : q ≠ r := fun e => by subst e; exact c.1 hq
      simp [this, (b q (by simp [hq])).2]
/-- A heap, and what is one's own beside it: marks and what else there is. -/
def MOk (hY hB : AHeap) (rds : List Nat) : Prop := ∃ own : List (Nat × AObj), hB = hY.puts own ∧ (∀ p ∈ own, hY.f p.1 = none) ∧ (∀ r ∈ rds, assoc own r = some .dfr) ∧ rds.Nodup
theorem MOk.nil {h : AHeap} : MOk h h [] := ⟨[], rfl, by simp, by simp, by simp⟩
theorem MOk.dfr {hY hB : AHeap} {rds : List Nat} (m : MOk hY hB rds) {r : Nat} (hr : r ∈ rds) : hB.f r = some .dfr := by
  obtain ⟨own, rfl, a, b, c⟩ := m
  rw [puts_f, b r hr]
theorem MOk.fr {hY hB : AHeap} {rds : List Nat} (m : MOk hY hB rds) {r : Nat} (hr : r ∈ rds) : hY.f r = none := by
  obtain ⟨own, rfl, a, b, c⟩ := m
  obtain ⟨p, h1, h2⟩ := assoc_some (b r hr)
  rw [← h2]
  exact a p h1
theorem MOk.nd {hY hB : AHeap} {rds : List Nat} (m : MOk hY hB rds) : rds.Nodup := by
  obtain ⟨own, rfl, a, b, c⟩ := m
  exact c
theorem MOk.sub {hY hB : AHeap} {rds : List Nat} (m : MOk hY hB rds) : hY.sub hB := by
  obtain ⟨own, rfl, a, b, c⟩ := m
  exact puts_sub a
theorem MOk.free {hY hB : AHeap} {rds : List Nat} (m : MOk hY hB rds) {i : Nat} (h : hB.f i = none) : hY.f i = none ∧ i ∉ rds := by
  refine ⟨?_, fun e => by rw [m.dfr e] at h; cases h⟩
  cases e : hY.f i with
  | none => rfl
  | some o => rw [m.sub i o e] at h; cases h
theorem MOk.junk {hY hB : AHeap} {rds : List Nat} (m : MOk hY hB rds) {i : Nat} (o : AObj) (h : hB.f i = none) : MOk hY (hB.set i o) rds := by
  obtain ⟨a1, a2⟩ := m.free h
  obtain ⟨own, rfl, a, b, c⟩ := m
  refine ⟨(i, o) :: own, rfl, fun p hp => ?_, fun r hr => ?_, c⟩
  · rcases List.mem_cons.1 hp with e | e
    · subst e; exact a1
    · exact a p e
  · have : r ≠ i := fun e => by subst e; exact a2 hr
    simp [assoc, this, b r hr]
theorem MOk.cons {hY hB : AHeap} {rds : List Nat} (m : MOk hY hB rds) {i : Nat} (h : hB.f i = none) : MOk hY (hB.set i .dfr) (i :: rds) := by
  obtain ⟨a1, a2⟩ := m.free h
  obtain ⟨own, rfl, a, b, c⟩ := m
  refine ⟨(i, .dfr) :: own, rfl, fun p hp => ?_, fun r hr => ?_, List.nodup_cons.2 ⟨a2, c⟩⟩
  · rcases List.mem_cons.1 hp with e | e
    · subst e; exact a1
    · exact a p e
  · by_cases e : r = i
    · simp [assoc, e]
    · rcases List.mem_cons.1 hr with e' | e'
      · exact absurd e' e
      · simp [assoc, e, b r e']
/-- What a call that yields finds is the heap beside what is one's own. -/
theorem MOk.call {hY hB : AHeap} {rds : List Nat} (m : MOk hY hB rds) (L : List (Nat × AObj)) (hL : ∀ p ∈ L, hB.f p.1 = none) : ∃ L', hB.puts L = hY.puts L' ∧ (∀ p ∈ L', hY.f p.1 = none) ∧
    ∀ h' : AHeap, (∀ p ∈ L', h'.f p.1 = none) → ∃ hB', MOk h' hB' rds ∧ h'.puts L' = hB'.puts L ∧ ∀ p ∈ L, hB'.f p.1 = none := by
  have hf := fun p hp => m.free (hL p hp)
  obtain ⟨own, rfl, a, b, c⟩ := m
  refine ⟨L ++ own, by simp [AHeap.puts], fun p hp => ?_, fun h' hh => ⟨h'.puts own, ⟨own, rfl, fun p hp => hh p (by simp [hp]), b, c⟩, by simp [AHeap.puts], fun p hp => ?_⟩⟩
  · rcases List.mem_append.1 hp with e | e
    · exact (hf p e).1
    · exact a p e
  · have h1 := hL p hp
    rw [puts_f] at h1 ⊢
    split at h1
    · cases h1
    · exact hh p (by simp [hp])
/-- What a range over a function's nodes has of its own. -/
def hM (l i2 i3 i5 i6 rd r : Nat) (d5 : List D) (hC : AHeap) (lf : Nat) : AHeap := (((((hC.set i2 (.cells [.func (.yield l) [] []])).set i3 (.cells [.int .i64 (lf : Int)])).set i5 (.cells d5)).set i6 (.cells d5)).set rd .dfr).set r (.lp (.done .normal))
structure NOk (hY hC : AHeap) (rds : List Nat) (i2 i3 i5 i6 rd r : Nat) : Prop where
  mo : MOk hY hC rds
  c2m : hC.f i2 = none
  c3m : hC.f i3 = none
  c5m : hC.f i5 = none
  c6m : hC.f i6 = none
  cd : hC.f rd = none
  cr : hC.f r = none
set_option maxHeartbeats 1000000 in
theorem rMut_ok (l : Nat) (Y : List D → AHeap → (D → AHeap → Prop) → Prop) (args : List D) (h : AHeap) (K : D → AHeap → Prop) (κ : Kap) (w : World) (hY : YMono Y) (hs : ∀ args h K, Y args h K → ∀ κ' w', Le κ w κ' w' → YCalls Tryz.prog κ' w' l args h K) (x : rMut l Y args h K) :
    ACallsAt Tryz.prog κ w 41 args h (AOut.to K fun _ _ => False) := by
  obtain ⟨p, id, rfl, hid, hn, y⟩ := x
  have hT : (tbNY l Y hY).okY Tryz.prog κ w := Tab.addY_ok (tbN_ok.toY κ w) hs
  refine ACallsAt.of_stmD hT (dc := DTab.none) DTab.none_ok st41m (by simp) ?_
  have hTq := tbNY_q l Y hY
  have hTc := tbNY_c l Y hY
  have hTy := tbNY_y l Y hY
  have hTr := tbNY_r l Y hY
  generalize tbNY l Y hY = TT at hTq hTc hTy hTr ⊢
  rw [vc_todo]
  obtain ⟨k, t, s, m, kids⟩ := p
  have hid' := hid
  rw [enc_mk] at hid'
  rw [cnt_mk] at hn
  have hln := cnts_len kids
  simp (config := {maxSteps := 1000000}) only [s41m, hTq, hTc, tm39_e, tm19_e, tn22_e, zzK, seval]
  intro i2 f2 i3 n32 n23 f3
  have ni2 : ¬ id = i2 := fun e => by subst e; rw [hid] at f2; cases f2
  have ni3 : ¬ id = i3 := fun e => by subst e; rw [hid] at f3; cases f3
  simp (config := {maxSteps := 1000000}) only [n32, n23, ni2, ni3, hid', len_encs, tm39_e, tm19_e, tn22_e, zzK, seval]
  intro _
  refine run_loopX (X := Nat × AHeap × AHeap × List Nat × Nat) (fun z => markD z.2.2.2.1) (fun z => [(2, .ptr i2 1 0), (3, .ptr i3 1 0), (10, .sl (Nd.encs kids)), (11, .int .i64 kids.length), (12, .int .i64 z.1)])
    (fun z => (z.2.2.1.set i2 (.cells [.func (.yield l) [] []])).set i3 (.cells [.int .i64 (z.2.2.2.2 : Int)])) (fun z => kids.length - z.1)
    (fun z => z.1 ≤ kids.length ∧ MOk z.2.1 z.2.2.1 z.2.2.2.1 ∧ z.2.2.1.f i2 = none ∧ z.2.2.1.f i3 = none ∧ z.2.2.2.2 ≤ 400 ∧ YM Y ((allM (kids.drop z.1)).take z.2.2.2.2) z.2.1 (fun h' => K (.tuple []) h'))
    (0, h, h, [], 400) ⟨Nat.zero_le _, MOk.nil, f2, f3, Nat.le_refl _, y⟩ (by simp only [markD, List.map_nil, leD_cons, leD_nil, zzK, seval]) (AHeap.sub_refl _) ?_
  rintro ⟨i, hY0, hB, rds, lf⟩ Q ⟨j1, mo, j2, j3, j4, j5⟩ hQ
  simp only at j1 mo j2 j3 j4 j5 hQ ⊢
  by_cases ci : i < kids.length
  · have g : ((i : Int) < (kids.length : Int)) = True := eq_true (by omega)
    obtain ⟨x, hx⟩ : ∃ x, kids[i]? = some x := ⟨_, List.getElem?_eq_getElem ci⟩
    have hac : ∀ (K : D → AHeap → Prop) (h : AHeap), askE 5 K h (Nd.encs kids) (i : Int) = K (.eptr x.enc 0) h := fun K h => askE_encs hx
    have hpx := part_enc x
    have dr : kids.drop i = x :: kids.drop (i + 1) := by
      rw [List.drop_eq_getElem_cons ci]
      congr 1
      exact (List.getElem?_eq_some_iff.1 hx).2
    have hxc : x.cnt ≤ 100000000 := by have := cnts_mem (List.mem_of_getElem? hx); omega
    rw [dr] at j5
    have wi : IntKind.i64.wrap ((i : Int) + 1) = ((i + 1 : Nat) : Int) := wrap_succ (by omega)
    have hx5 := len_enc x
    have hxo := enc_ok x
    obtain ⟨xk, xt, xs, xm, xl⟩ := x
    rw [enc_mk] at *
    by_cases ck : xk = 3
    · subst ck
      rw [allM_fn] at j5
      simp (config := {maxSteps := 1000000}) only [g, hac, hpx, j2, j3, n32, n23, wi, hTc, tn19_q, s22m, retS_ret, tm39_e, tm19_e, tn22_e, zzK, seval]
      intro i5 n53 n35 n52 n25 f5 i6 n65 n56 n63 n36 n62 n26 f6
      refine run_rangeF (f := 42) (first := []) (cap := [.ptr i6 1 0]) (by simp only [zzK, seval]) fun l' r rd hr hrd hne => ?_
      have hne' : ¬ rd = r := fun e => hne e.symm
      have r6 : ¬ r = i6 := fun e => by subst e; simp at hr
      have r5 : ¬ r = i5 := fun e => by subst e; simp [n56] at hr
      have r3 : ¬ r = i3 := fun e => by subst e; simp [n36, n35] at hr
      have r2 : ¬ r = i2 := fun e => by subst e; simp [n26, n25, n23] at hr
      have d6 : ¬ rd = i6 := fun e => by subst e; simp at hrd
      have d5 : ¬ rd = i5 := fun e => by subst e; simp [n56] at hrd
      have d3 : ¬ rd = i3 := fun e => by subst e; simp [n36, n35] at hrd
      have d2 : ¬ rd = i2 := fun e => by subst e; simp [n26, n25, n23] at hrd
      have s6m : ¬ i6 = r := fun e => r6 e.symm
      have s5m : ¬ i5 = r := fun e => r5 e.symm
      have s3m : ¬ i3 = r := fun e => r3 e.symm
      have s2m : ¬ i2 = r := fun e => r2 e.symm
      have t6 : ¬ i6 = rd := fun e => d6 e.symm
      have t5 : ¬ i5 = rd := fun e => d5 e.symm
      have t3 : ¬ i3 = rd := fun e => d3 e.symm
      have t2 : ¬ i2 = rd := fun e => d2 e.symm
      have hr' : hB.f r = none := by simpa [r2, r3, r5, r6] using hr
      have hrd' : hB.f rd = none := by simpa [d2, d3, d5, d6] using hrd
      clear hr hrd
      rw [hTr, if_pos rfl]
      refine ⟨.mk 3 xt xs xm xl, i6, rfl, by simp [s6m, t6, enc_mk], hxc, ?_⟩
      refine YI_ind (roundY_mono _ _ _ _ _) (fun j hh => ∃ (hY hC : AHeap) (lf : Nat), hh = hM l i2 i3 i5 i6 rd r [.int .i64 3, .int .i64 xt, .str xs, .int .i64 xm, .sl (Nd.encs xl)] hC lf ∧ NOk hY hC rds i2 i3 i5 i6 rd r ∧ lf ≤ 400 ∧ YM Y ((mutsL xs j ((listF (.mk 3 xt xs xm xl)).drop j) ++ allM (kids.drop (i + 1))).take lf) hY (fun h' => K (.tuple []) h')) (listF (.mk 3 xt xs xm xl)) ?_ ?_ _ 0 _ rfl (Nat.zero_le _) ⟨hY0, hB, lf, rfl, ⟨mo, j2, j3, f5, f6, hrd', hr'⟩, j4, j5⟩
      · rintro j y hh hy ⟨hY1, hC1, lf1, rfl, ok1, q1m, q2m⟩
        rw [round2]
        refine ⟨by simp [hM], ?_⟩
        have hy : (listF (.mk 3 xt xs xm xl))[j]? = some y := hy
        have hyc : y.cnt ≤ 1000000000 := by have := cnt_mem _ _ (List.mem_of_getElem? hy); omega
        have hq19 := q19m_eq y hyc
        have hyd : (listF (.mk 3 xt xs xm xl)).drop j = y :: (listF (.mk 3 xt xs xm xl)).drop (j + 1) := by
          have hl := (List.getElem?_eq_some_iff.1 hy).1
          rw [List.drop_eq_getElem_cons hl]
          congr 1
          exact (List.getElem?_eq_some_iff.1 hy).2
        rw [hyd, mutsL, List.append_assoc] at q2m
        generalize (listF (.mk 3 xt xs xm xl)).drop (j + 1) = rest at q2m
        generalize htn : turnsF y = tn at *
        have hy5 := len_enc y
        obtain ⟨yk, yt, ys, ym, yl⟩ := y
        rw [enc_mk] at *
        obtain ⟨mo1, c2m, c3m, c5m, c6m, cd, cr⟩ := ok1
        simp (config := {maxSteps := 1000000}) only [hM, hTq, hq19, len_encs, asgK_normal, tm39_e, tm19_e, tn22_e, zzK, seval]
        intro i7 e7r er7 e7d ed7 e76 e67 e75 e57 e73 e37 e72 e27 f7
        simp (config := {maxSteps := 1000000}) only [e7r, er7, e7d, ed7, e76, e67, e75, e57, e73, e37, e72, e27, f7, s6m, s5m, s3m, s2m, r6, r5, r3, r2, t6, t5, t3, t2, d6, d5, d3, d2, hne, hne', hM, hTq, hq19, len_encs, asgK_normal, tm39_e, tm19_e, tn22_e, zzK, seval]
        intro _
        refine run_loop (X := Nat × AHeap × AHeap × Nat) (fun z => [(2, .ptr i2 1 0), (3, .ptr i3 1 0), (5, .ptr i5 1 0), (6, .int .i64 j), (25, .int .i64 tn.length), (26, .int .i64 z.1)])
          (fun z => (((((((z.2.2.1.set i2 (.cells [.func (.yield l) [] []])).set i3 (.cells [.int .i64 (z.2.2.2 : Int)])).set i5 (.cells [.int .i64 3, .int .i64 xt, .str xs, .int .i64 xm, .sl (Nd.encs xl)])).set i6 (.cells [.int .i64 3, .int .i64 xt, .str xs, .int .i64 xm, .sl (Nd.encs xl)])).set rd .dfr).set i7 (.cells [.int .i64 yk, .int .i64 yt, .str ys, .int .i64 ym, .sl (Nd.encs yl)])).set r (.lp .busy))) (fun z => tn.length - z.1)
          (fun z => z.1 ≤ tn.length ∧ NOk z.2.1 z.2.2.1 rds i2 i3 i5 i6 rd r ∧ z.2.2.1.f i7 = none ∧ z.2.2.2 ≤ 400 ∧ YM Y ((mutsN xs j tn.length z.1 ++ (mutsL xs ((j : Int) + 1) rest ++ allM (kids.drop (i + 1)))).take z.2.2.2) z.2.1 (fun h' => K (.tuple []) h'))
          (0, hY1, hC1, lf1) ⟨Nat.zero_le _, ⟨mo1, c2m, c3m, c5m, c6m, cd, cr⟩, f7, q1m, q2m⟩ (by simp only [zzK, seval]) ?_ ?_
        · exact AHeap.sub_X (by repeat' first | with_reducible exact AHeap.subX_refl | with_reducible exact AHeap.subX_emp | refine AHeap.subX_l (by simp [e7r, er7, e7d, ed7, e76, e67, e75, e57, e73, e37, e72, e27, s6m, s5m, s3m, s2m, r6, r5, r3, r2, t6, t5, t3, t2, d6, d5, d3, d2, n53, n35, n52, n25, n65, n56, n63, n36, n62, n26, n32, n23, hne, hne']) ?_ | refine AHeap.subX_r (by simp [e7r, er7, e7d, ed7, e76, e67, e75, e57, e73, e37, e72, e27, s6m, s5m, s3m, s2m, r6, r5, r3, r2, t6, t5, t3, t2, d6, d5, d3, d2, n53, n35, n52, n25, n65, n56, n63, n36, n62, n26, n32, n23, hne, hne']) ?_)
        clear q2m q1m mo1 c2m c3m c5m c6m cd cr f7
        rintro ⟨k, hY2, hC2, lf2⟩ Q2 ⟨u1, ok2, u3, u4, u5⟩ hQ2
        simp only at u1 ok2 u3 u4 u5 hQ2 ⊢
        obtain ⟨mo2, c2m, c3m, c5m, c6m, cd, cr⟩ := ok2
        by_cases ck : k < tn.length
        · have gk : ((k : Int) < (tn.length : Int)) = True := eq_true (by omega)
          have wk : IntKind.i64.wrap ((k : Int) + 1) = ((k + 1 : Nat) : Int) := wrap_succ (by omega)
          have wl : IntKind.i64.wrap ((lf2 : Int) - 1) = (lf2 : Int) - 1 := wrap_i64 (by omega) (by omega)
          rw [mutsN_step _ _ _ _ ck, List.cons_append] at u5
          cases lf2 with
          | zero =>
            have wl : IntKind.i64.wrap (-1) = -1 := by decide
            have gl : ((-1 : Int) < 0) = True := eq_true (by omega)
            rw [List.take_zero, YM_nil] at u5
            simp (config := {maxSteps := 1000000}) only [gk, wl, gl, e7r, er7, e7d, ed7, e76, e67, e75, e57, e73, e37, e72, e27, s6m, s5m, s3m, s2m, r6, r5, r3, r2, t6, t5, t3, t2, d6, d5, d3, d2, n53, n35, n52, n25, n65, n56, n63, n36, n62, n26, n32, n23, hne, hne', c2m, c3m, c5m, c6m, cd, cr, u3, bodyK_eq, Ex.code, Option.isNone_some, AHeap.del_f, true_and, tm39_e, tm19_e, tn22_e, zzK, seval]
            refine rangeK_done (e := .ret) (by simp) ?_
            simp (config := {maxSteps := 1000000}) only [retD_ret, e7r, er7, e7d, ed7, e76, e67, e75, e57, e73, e37, e72, e27, s6m, s5m, s3m, s2m, r6, r5, r3, r2, t6, t5, t3, t2, d6, d5, d3, d2, n53, n35, n52, n25, n65, n56, n63, n36, n62, n26, n32, n23, hne, hne', tm39_e, tm19_e, tn22_e, zzK, seval]
            show leav DTab.none (markD (rd :: rds)) none _ _
            refine leav_marks (hY := hY2) _ _ ?_ (fun q hq => ?_) (List.nodup_cons.2 ⟨(mo2.free cd).2, mo2.nd⟩) fun h' hsub => ?_
            · refine fun q o hq => ?_
              have hqB := mo2.sub q o hq
              have q7m : ¬ q = i7 := fun e => by subst e; rw [u3] at hqB; cases hqB
              have q2m : ¬ q = i2 := fun e => by subst e; rw [c2m] at hqB; cases hqB
              have q3m : ¬ q = i3 := fun e => by subst e; rw [c3m] at hqB; cases hqB
              have q5m : ¬ q = i5 := fun e => by subst e; rw [c5m] at hqB; cases hqB
              have q6m : ¬ q = i6 := fun e => by subst e; rw [c6m] at hqB; cases hqB
              have qd : ¬ q = rd := fun e => by subst e; rw [cd] at hqB; cases hqB
              have qr : ¬ q = r := fun e => by subst e; rw [cr] at hqB; cases hqB
              simp [q7m, q2m, q3m, q5m, q6m, qd, qr, hqB]
            · rcases List.mem_cons.1 hq with e | hq
              · subst e; exact ⟨(mo2.free cd).1, by simp [e7r, er7, e7d, ed7, e76, e67, e75, e57, e73, e37, e72, e27, s6m, s5m, s3m, s2m, r6, r5, r3, r2, t6, t5, t3, t2, d6, d5, d3, d2, n53, n35, n52, n25, n65, n56, n63, n36, n62, n26, n32, n23, hne, hne']⟩
              · have hqB := mo2.dfr hq
                have q7m : ¬ q = i7 := fun e => by subst e; rw [u3] at hqB; cases hqB
                have q2m : ¬ q = i2 := fun e => by subst e; rw [c2m] at hqB; cases hqB
                have q3m : ¬ q = i3 := fun e => by subst e; rw [c3m] at hqB; cases hqB
                have q5m : ¬ q = i5 := fun e => by subst e; rw [c5m] at hqB; cases hqB
                have q6m : ¬ q = i6 := fun e => by subst e; rw [c6m] at hqB; cases hqB
                have qd : ¬ q = rd := fun e => by subst e; rw [cd] at hqB; cases hqB
                have qr : ¬ q = r := fun e => by subst e; rw [cr] at hqB; cases hqB
                exact ⟨mo2.fr hq, by simp [q7m, q2m, q3m, q5m, q6m, qd, qr, hqB]⟩
            · simp (config := {maxSteps := 1000000}) only [finD, zzK, seval]
              exact .inl ⟨hY2, hsub, u5⟩
          | succ lf2 =>
            have wl : IntKind.i64.wrap (((lf2 + 1 : Nat) : Int) - 1) = (lf2 : Int) := by rw [wrap_i64 (by omega) (by omega)]; omega
            have gl : ((lf2 : Int) < 0) = False := eq_false (by omega)
            rw [List.take_succ_cons, YM_cons] at u5
            simp (config := {maxSteps := 1000000}) only [gk, wl, gl, e7r, er7, e7d, ed7, e76, e67, e75, e57, e73, e37, e72, e27, s6m, s5m, s3m, s2m, r6, r5, r3, r2, t6, t5, t3, t2, d6, d5, d3, d2, n53, n35, n52, n25, n65, n56, n63, n36, n62, n26, n32, n23, hne, hne', c2m, c3m, c5m, c6m, cd, cr, u3, tm39_e, tm19_e, tn22_e, zzK, seval]
            obtain ⟨L', e1, e2, e3⟩ := mo2.call [(i3, .cells [.int .i64 (lf2 : Int)]), (r, .lp .busy), (i7, .cells [.int .i64 yk, .int .i64 yt, .str ys, .int .i64 ym, .sl (Nd.encs yl)]), (rd, .dfr), (i6, .cells [.int .i64 3, .int .i64 xt, .str xs, .int .i64 xm, .sl (Nd.encs xl)]), (i5, .cells [.int .i64 3, .int .i64 xt, .str xs, .int .i64 xm, .sl (Nd.encs xl)]), (i3, .cells [.int .i64 ((lf2 + 1 : Nat) : Int)]), (i2, .cells [.func (.yield l) [] []])] (by simp [c2m, c3m, c5m, c6m, cd, cr, u3])
            rw [i_yield]
            refine ⟨hY2, L', e1, e2, ?_⟩
            rw [hTy]
            refine hY _ _ _ _ (fun d h' kk => ?_) u5
            obtain ⟨b, rfl, kt, kf⟩ := kk
            intro hL'
            obtain ⟨hB', m1, m2, m3⟩ := e3 h' hL'
            rw [m2]
            have k3 := m3 _ List.mem_cons_self
            have kr := m3 (r, .lp .busy) (by simp)
            have k7 := m3 (i7, .cells [.int .i64 yk, .int .i64 yt, .str ys, .int .i64 ym, .sl (Nd.encs yl)]) (by simp)
            have kd := m3 (rd, .dfr) (by simp)
            have k6 := m3 (i6, .cells [.int .i64 3, .int .i64 xt, .str xs, .int .i64 xm, .sl (Nd.encs xl)]) (by simp)
            have k5 := m3 (i5, .cells [.int .i64 3, .int .i64 xt, .str xs, .int .i64 xm, .sl (Nd.encs xl)]) (by simp)
            have k2 := m3 (i2, .cells [.func (.yield l) [] []]) (by simp)
            simp only at k3 kr k7 kd k6 k5 k2
            simp only [AHeap.puts, List.foldr_cons, List.foldr_nil]
            clear m3 e3 e2 e1 m2
            cases b with
            | true =>
              have kt := kt rfl
              simp (config := {maxSteps := 1000000}) only [wk, e7r, er7, e7d, ed7, e76, e67, e75, e57, e73, e37, e72, e27, s6m, s5m, s3m, s2m, r6, r5, r3, r2, t6, t5, t3, t2, d6, d5, d3, d2, n53, n35, n52, n25, n65, n56, n63, n36, n62, n26, n32, n23, hne, hne', Bool.not_true, tm39_e, tm19_e, tn22_e, zzK, seval]
              refine hQ2 (k + 1, h', hB', lf2) _ _ ⟨by omega, ⟨m1, k2, k3, k5, k6, kd, kr⟩, k7, by simp only; omega, kt⟩ (by simp only [zzK, seval]) ?_ (by simp only; omega)
              exact AHeap.sub_X (by repeat' first | with_reducible exact AHeap.subX_refl | with_reducible exact AHeap.subX_emp | refine AHeap.subX_l (by simp [e7r, er7, e7d, ed7, e76, e67, e75, e57, e73, e37, e72, e27, s6m, s5m, s3m, s2m, r6, r5, r3, r2, t6, t5, t3, t2, d6, d5, d3, d2, n53, n35, n52, n25, n65, n56, n63, n36, n62, n26, n32, n23, hne, hne']) ?_ | refine AHeap.subX_r (by simp [e7r, er7, e7d, ed7, e76, e67, e75, e57, e73, e37, e72, e27, s6m, s5m, s3m, s2m, r6, r5, r3, r2, t6, t5, t3, t2, d6, d5, d3, d2, n53, n35, n52, n25, n65, n56, n63, n36, n62, n26, n32, n23, hne, hne']) ?_)
            | false =>
              have kf := kf rfl
              simp (config := {maxSteps := 1000000}) only [bodyK_eq, Ex.code, Option.isNone_some, AHeap.del_f, true_and, e7r, er7, e7d, ed7, e76, e67, e75, e57, e73, e37, e72, e27, s6m, s5m, s3m, s2m, r6, r5, r3, r2, t6, t5, t3, t2, d6, d5, d3, d2, n53, n35, n52, n25, n65, n56, n63, n36, n62, n26, n32, n23, hne, hne', Bool.not_false, tm39_e, tm19_e, tn22_e, zzK, seval]
              refine rangeK_done (e := .ret) (by simp) ?_
              simp (config := {maxSteps := 1000000}) only [retD_ret, e7r, er7, e7d, ed7, e76, e67, e75, e57, e73, e37, e72, e27, s6m, s5m, s3m, s2m, r6, r5, r3, r2, t6, t5, t3, t2, d6, d5, d3, d2, n53, n35, n52, n25, n65, n56, n63, n36, n62, n26, n32, n23, hne, hne', tm39_e, tm19_e, tn22_e, zzK, seval]
              show leav DTab.none (markD (rd :: rds)) none _ _
              refine leav_marks (hY := h') _ _ ?_ (fun q hq => ?_) (List.nodup_cons.2 ⟨(m1.free kd).2, m1.nd⟩) fun h'' hsub => ?_
              · refine fun q o hq => ?_
                have hqB := m1.sub q o hq
                have q7m : ¬ q = i7 := fun e => by subst e; rw [k7] at hqB; cases hqB
                have q2m : ¬ q = i2 := fun e => by subst e; rw [k2] at hqB; cases hqB
                have q3m : ¬ q = i3 := fun e => by subst e; rw [k3] at hqB; cases hqB
                have q5m : ¬ q = i5 := fun e => by subst e; rw [k5] at hqB; cases hqB
                have q6m : ¬ q = i6 := fun e => by subst e; rw [k6] at hqB; cases hqB
                have qd : ¬ q = rd := fun e => by subst e; rw [kd] at hqB; cases hqB
                have qr : ¬ q = r := fun e => by subst e; rw [kr] at hqB; cases hqB
                simp [q7m, q2m, q3m, q5m, q6m, qd, qr, hqB]
              · rcases List.mem_cons.1 hq with e | hq
                · subst e; exact ⟨(m1.free kd).1, by simp [e7r, er7, e7d, ed7, e76, e67, e75, e57, e73, e37, e72, e27, s6m, s5m, s3m, s2m, r6, r5, r3, r2, t6, t5, t3, t2, d6, d5, d3, d2, n53, n35, n52, n25, n65, n56, n63, n36, n62, n26, n32, n23, hne, hne']⟩
                · have hqB := m1.dfr hq
                  have q7m : ¬ q = i7 := fun e => by subst e; rw [k7] at hqB; cases hqB
                  have q2m : ¬ q = i2 := fun e => by subst e; rw [k2] at hqB; cases hqB
                  have q3m : ¬ q = i3 := fun e => by subst e; rw [k3] at hqB; cases hqB
                  have q5m : ¬ q = i5 := fun e => by subst e; rw [k5] at hqB; cases hqB
                  have q6m : ¬ q = i6 := fun e => by subst e; rw [k6] at hqB; cases hqB
                  have qd : ¬ q = rd := fun e => by subst e; rw [kd] at hqB; cases hqB
                  have qr : ¬ q = r := fun e => by subst e; rw [kr] at hqB; cases hqB
                  exact ⟨m1.fr hq, by simp [q7m, q2m, q3m, q5m, q6m, qd, qr, hqB]⟩
              · simp (config := {maxSteps := 1000000}) only [finD, zzK, seval]
                exact .inl ⟨h', hsub, kf⟩
        · have e0 : k = tn.length := by omega
          subst e0
          have gk : ((tn.length : Int) < (tn.length : Int)) = False := eq_false (by omega)
          rw [mutsN_end, List.nil_append] at u5
          simp (config := {maxSteps := 1000000}) only [gk, bodyK_eq, Ex.code, Option.isNone_none, AHeap.del_f, true_and, e7r, er7, e7d, ed7, e76, e67, e75, e57, e73, e37, e72, e27, s6m, s5m, s3m, s2m, r6, r5, r3, r2, t6, t5, t3, t2, d6, d5, d3, d2, n53, n35, n52, n25, n65, n56, n63, n36, n62, n26, n32, n23, hne, hne', c2m, c3m, c5m, c6m, cd, cr, u3, tm39_e, tm19_e, tn22_e, zzK, seval]
          refine ⟨hY2, hC2.set i7 (.cells [.int .i64 yk, .int .i64 yt, .str ys, .int .i64 ym, .sl (Nd.encs yl)]), lf2, ?_, ⟨mo2.junk _ u3, by simp [e27, c2m], by simp [e37, c3m], by simp [e57, c5m], by simp [e67, c6m], by simp [ed7, cd], by simp [er7, cr]⟩, u4, u5⟩
          refine AHeap.ext fun q => ?_
          simp only [AHeap.set_f]
          by_cases eq7 : q = i7
          · subst eq7
            simp [e7r, er7, e7d, ed7, e76, e67, e75, e57, e73, e37, e72, e27, s6m, s5m, s3m, s2m, r6, r5, r3, r2, t6, t5, t3, t2, d6, d5, d3, d2, n53, n35, n52, n25, n65, n56, n63, n36, n62, n26, n32, n23, hne, hne']
          · simp only [eq7, if_false]
      · rintro hh ⟨hY1, hC1, lf1, rfl, ok1, q1m, q2m⟩
        refine rangeK_done (e := .normal) (by simp [hM]) ?_
        obtain ⟨mo1, c2m, c3m, c5m, c6m, cd, cr⟩ := ok1
        rw [List.drop_length, mutsL, List.nil_append] at q2m
        simp (config := {maxSteps := 1000000}) only [hM, wi, s6m, s5m, s3m, s2m, r6, r5, r3, r2, t6, t5, t3, t2, d6, d5, d3, d2, hne, hne', tm39_e, tm19_e, tn22_e, zzK, seval]
        refine hQ (i + 1, hY1, hC1.set rd .dfr, rd :: rds, lf1) _ _ ⟨by omega, mo1.cons cd, by simp [t2, c2m], by simp [t3, c3m], q1m, q2m⟩ (by simp only [leD_cons, leD_nil, markD, List.map_cons, zzK, seval]) ?_ (by simp only; omega)
        refine fun q o hq => ?_
        simp only [AHeap.set_f, AHeap.del_f] at hq ⊢
        by_cases q3m : q = i3
        · subst q3m
          simp only [if_true] at hq
          cases hq
          simp [s6m, s5m, s3m, s2m, r6, r5, r3, r2, t6, t5, t3, t2, d6, d5, d3, d2, n53, n35, n52, n25, n65, n56, n63, n36, n62, n26, n32, n23, hne, hne']
        · simp only [q3m, if_false] at hq ⊢
          by_cases q2m : q = i2
          · subst q2m
            simp only [if_true] at hq
            cases hq
            simp [s6m, s5m, s3m, s2m, r6, r5, r3, r2, t6, t5, t3, t2, d6, d5, d3, d2, n53, n35, n52, n25, n65, n56, n63, n36, n62, n26, n32, n23, hne, hne']
          · simp only [q2m, if_false] at hq ⊢
            by_cases qd : q = rd
            · subst qd
              simp only [if_true] at hq
              cases hq
              simp [hne, hne']
            · simp only [qd, if_false] at hq ⊢
              have qr : ¬ q = r := fun e => by subst e; rw [cr] at hq; cases hq
              have q5m : ¬ q = i5 := fun e => by subst e; rw [c5m] at hq; cases hq
              have q6m : ¬ q = i6 := fun e => by subst e; rw [c6m] at hq; cases hq
              simp [qr, q5m, q6m, hq]
    · have gk : (xk != 3) = true := by simpa using ck
      rw [allM_no ck] at j5
      simp (config := {maxSteps := 1000000}) only [g, gk, hac, hpx, j2, j3, n32, n23, wi, tm39_e, tm19_e, tn22_e, zzK, seval]
      intro i5 n53 n35 n52 n25 f5
      refine hQ (i + 1, hY0, hB, rds, lf) _ _ ⟨by omega, mo, j2, j3, j4, j5⟩ (by simp only [leD_cons, leD_nil, zzK, seval]) ?_ (by simp only; omega)
      exact AHeap.sub_X (AHeap.subX_r (.inr (by simp [f5, n53, n35, n52, n25])) AHeap.subX_refl)
  · have e0 : i = kids.length := by omega
    subst e0
    have g : ((kids.length : Int) < (kids.length : Int)) = False := eq_false (by omega)
    rw [List.drop_length, allM, List.take_nil, YM_nil] at j5
    simp (config := {maxSteps := 1000000}) only [g, retD_normal, tm39_e, tm19_e, tn22_e, zzK, seval]
    refine leav_marks (hY := hY0) _ _ ?_ (fun q hq => ⟨mo.fr hq, ?_⟩) mo.nd fun h' hsub => ?_
    · exact AHeap.sub_X (AHeap.subX_r (.inr (by simp [(mo.free j3).1, n32, n23])) (AHeap.subX_r (.inr (mo.free j2).1) (fun i o _ hi => mo.sub i o hi)))
    · have q2m : ¬ q = i2 := fun e => by subst e; exact (mo.free j2).2 hq
      have q3m : ¬ q = i3 := fun e => by subst e; exact (mo.free j3).2 hq
      simp [q2m, q3m, mo.dfr hq]
    · simp (config := {maxSteps := 1000000}) only [finD, zzK, seval]
      exact .inl ⟨hY0, hsub, j5⟩
end
end Go.Proofs.YtpagdhbmbnoddaaGreatDoor.Zz
