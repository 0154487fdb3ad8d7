/- Contracts: the node at a place; are nodes gone over by their places? -/
import Derived.Test.YtpagdhbmbnoddaaGreatDoorZA17
import Derived.Test.YtpagdhbmbnoddaaGreatDoorZP6
import Derived.Test.YtpagdhbmbnoddaaGreatDoorZX
import Derived.Below
import Derived.ChangeSlices
import Derived.ChangeSame
import Derived.Deep.Strs
import Derived.LaidLaws
import Derived.Deep.DeepLaidRun
import Derived.Handed
import Derived.HandedShaped
import Derived.OpenShut
import Derived.MakeChecks
import Derived.Shelf.Vars
set_option linter.unnecessarySimpa false
namespace Go.Proofs.YtpagdhbmbnoddaaGreatDoor.Zz
noncomputable section
set_option linter.unusedVariables false
set_option linter.unusedSimpArgs false
set_option maxRecDepth 20000
def p22t : Plan := ⟨⟨[], [(1, 1)], [], [], [], []⟩, [], [], false⟩
/-- cupel/ast.At (2 parameters, 0 captured) -/
def s22t : Stm :=
 .seq (.ops [⟨.box (.t 0), (some 2), none, false⟩,
 ⟨.box (.t 1), (some 3), none, false⟩,
 ⟨.alloc [(.int .i64 0), (.int .i64 0), (.str []), (.int .i64 0), .nilsl], (some 4), none, false⟩,
 ⟨.alloc [(.bool false)], (some 5), none, false⟩])
 (.seq (.seq (.ops [⟨.load (some 5) (.t 2), (some 8), none, false⟩,
 ⟨.call (.f 22) [(.t 8)], (some 9), none, false⟩])
 (.block 0 (.rangeF (.t 9) [10, 11]
 (.seq (.ops [⟨.mov (.t 10), (some 6), none, true⟩])
 (.ops [⟨.alloc [(.int .i64 0), (.int .i64 0), (.str []), (.int .i64 0), .nilsl], (some 7), none, false⟩,
 ⟨.store 5 (.t 7) (.t 11), none, none, false⟩]))
 (.block 1 (.seq (.ops [⟨.mov (.t 6), (some 12), none, true⟩,
 ⟨.load none (.t 3), (some 13), none, false⟩,
 ⟨.bin .eql (.t 12) (.t 13), (some 14), none, true⟩])
 (.cond (.t 14)
 (.seq (.ops [⟨.load (some 5) (.t 7), (some 15), none, false⟩,
 ⟨.store 5 (.t 4) (.t 15), none, none, false⟩,
 ⟨.store 1 (.t 5) (.c (.bool true)), none, none, false⟩])
 (.ret))
 (.skip)))))))
 (.seq (.ops [⟨.build [(.int .i64 0), (.int .i64 0), (.str []), (.int .i64 0), .nilsl] [], (some 16), none, true⟩,
 ⟨.store 5 (.t 4) (.t 16), none, none, false⟩,
 ⟨.store 1 (.t 5) (.c (.bool false)), none, none, false⟩])
 (.ret)))
theorem st22t : stmOf Tryz.prog 11 p22t = some (s22t, [.cell 4 (some 5), .cell 5 none], 17) := by kernel_rfl

def zeroNd : Nd := .mk 0 0 [] 0 []
def atF (n : Nd) (p : Int) : Option Nd := if 0 ≤ p then (listF n)[p.toNat]? else none
theorem at_c (n : Nd) (p : Int) (hn : n.cnt ≤ 100000000) : PCall Tryz.prog 11 [.agg n.enc, .int .i64 p] (.tuple [.agg ((atF n p).getD zeroNd).enc, .bool (atF n p).isSome]) := by
  refine ACalls.of_stmD tbR_ok (dc := DTab.none) (fun _ _ => DTab.none_ok) (by kernel_rfl) st22t (by simp) ?_
  have hTr := tbR_r
  rw [vc_todo]
  obtain ⟨k, t, s, m, kids⟩ := n
  rw [enc_mk]
  simp (config := {maxSteps := 1000000}) only [s22t, tbR_e, retS_ret, zzK, seval]
  intro i1  i2 a2_1 b2_1 i3 a3_2 b3_2 a3_1 b3_1 i4 a4_3 b4_3 a4_2 b4_2 a4_1 b4_1
  simp (config := {maxSteps := 1000000}) only [a2_1, b2_1, a3_2, b3_2, a3_1, b3_1, a4_3, b4_3, a4_2, b4_2, a4_1, b4_1, s46r, tbR_e, retS_ret, zzK, seval]
  intro i5 a5_4 b5_4 a5_3 b5_3 a5_2 b5_2 a5_1 b5_1
  refine run_rangeF (f := 42) (first := []) (cap := [.ptr i5 1 0]) (by simp only [zzK, seval]) fun l r rd hr hrd hne => ?_
  have n_i1 : ¬ r = i1 := fun e => by subst e; simp [a2_1, b2_1, a3_2, b3_2, a3_1, b3_1, a4_3, b4_3, a4_2, b4_2, a4_1, b4_1, a5_4, b5_4, a5_3, b5_3, a5_2, b5_2, a5_1, b5_1] at hr
  have n_i1' : ¬ i1 = r := fun e => n_i1 e.symm
  have d_i1 : ¬ rd = i1 := fun e => by subst e; simp [a2_1, b2_1, a3_2, b3_2, a3_1, b3_1, a4_3, b4_3, a4_2, b4_2, a4_1, b4_1, a5_4, b5_4, a5_3, b5_3, a5_2, b5_2, a5_1, b5_1] at hrd
  have d_i1' : ¬ i1 = rd := fun e => d_i1 e.symm
  have n_i2 : ¬ r = i2 := fun e => by subst e; simp [a2_1, b2_1, a3_2, b3_2, a3_1, b3_1, a4_3, b4_3, a4_2, b4_2, a4_1, b4_1, a5_4, b5_4, a5_3, b5_3, a5_2, b5_2, a5_1, b5_1] at hr
  have n_i2' : ¬ i2 = r := fun e => n_i2 e.symm
  have d_i2 : ¬ rd = i2 := fun e => by subst e; simp [a2_1, b2_1, a3_2, b3_2, a3_1, b3_1, a4_3, b4_3, a4_2, b4_2, a4_1, b4_1, a5_4, b5_4, a5_3, b5_3, a5_2, b5_2, a5_1, b5_1] at hrd
  have d_i2' : ¬ i2 = rd := fun e => d_i2 e.symm
  have n_i3 : ¬ r = i3 := fun e => by subst e; simp [a2_1, b2_1, a3_2, b3_2, a3_1, b3_1, a4_3, b4_3, a4_2, b4_2, a4_1, b4_1, a5_4, b5_4, a5_3, b5_3, a5_2, b5_2, a5_1, b5_1] at hr
  have n_i3' : ¬ i3 = r := fun e => n_i3 e.symm
  have d_i3 : ¬ rd = i3 := fun e => by subst e; simp [a2_1, b2_1, a3_2, b3_2, a3_1, b3_1, a4_3, b4_3, a4_2, b4_2, a4_1, b4_1, a5_4, b5_4, a5_3, b5_3, a5_2, b5_2, a5_1, b5_1] at hrd
  have d_i3' : ¬ i3 = rd := fun e => d_i3 e.symm
  have n_i4 : ¬ r = i4 := fun e => by subst e; simp [a2_1, b2_1, a3_2, b3_2, a3_1, b3_1, a4_3, b4_3, a4_2, b4_2, a4_1, b4_1, a5_4, b5_4, a5_3, b5_3, a5_2, b5_2, a5_1, b5_1] at hr
  have n_i4' : ¬ i4 = r := fun e => n_i4 e.symm
  have d_i4 : ¬ rd = i4 := fun e => by subst e; simp [a2_1, b2_1, a3_2, b3_2, a3_1, b3_1, a4_3, b4_3, a4_2, b4_2, a4_1, b4_1, a5_4, b5_4, a5_3, b5_3, a5_2, b5_2, a5_1, b5_1] at hrd
  have d_i4' : ¬ i4 = rd := fun e => d_i4 e.symm
  have n_i5 : ¬ r = i5 := fun e => by subst e; simp [a2_1, b2_1, a3_2, b3_2, a3_1, b3_1, a4_3, b4_3, a4_2, b4_2, a4_1, b4_1, a5_4, b5_4, a5_3, b5_3, a5_2, b5_2, a5_1, b5_1] at hr
  have n_i5' : ¬ i5 = r := fun e => n_i5 e.symm
  have d_i5 : ¬ rd = i5 := fun e => by subst e; simp [a2_1, b2_1, a3_2, b3_2, a3_1, b3_1, a4_3, b4_3, a4_2, b4_2, a4_1, b4_1, a5_4, b5_4, a5_3, b5_3, a5_2, b5_2, a5_1, b5_1] at hrd
  have d_i5' : ¬ i5 = rd := fun e => d_i5 e.symm
  have hne' : ¬ rd = r := fun e => hne e.symm
  rw [tbR_r, if_pos rfl]
  refine ⟨.mk k t s m kids, i5, rfl, by simp [n_i5', d_i5', enc_mk], hn, ?_⟩
  refine YI_ind (roundY_mono _ _ _ _ _) (fun i hh => (p < 0 ∨ (i : Int) ≤ p) ∧ hh.f i2 = some (.cells [.int .i64 p]) ∧ hh.f i3 = some (.cells [.int .i64 0, .int .i64 0, .str [], .int .i64 0, .nilsl]) ∧ hh.f i4 = some (.cells [.bool false]) ∧ hh.f r = some (.lp (.done .normal)) ∧ hh.f rd = some .dfr) _ ?_ ?_ _ 0 _ rfl (Nat.zero_le _) ⟨by simp; omega, by simp [a2_1, b2_1, a3_2, b3_2, a3_1, b3_1, a4_3, b4_3, a4_2, b4_2, a4_1, b4_1, a5_4, b5_4, a5_3, b5_3, a5_2, b5_2, a5_1, b5_1, n_i2', d_i2'], by simp [a2_1, b2_1, a3_2, b3_2, a3_1, b3_1, a4_3, b4_3, a4_2, b4_2, a4_1, b4_1, a5_4, b5_4, a5_3, b5_3, a5_2, b5_2, a5_1, b5_1, n_i3', d_i3'], by simp [a2_1, b2_1, a3_2, b3_2, a3_1, b3_1, a4_3, b4_3, a4_2, b4_2, a4_1, b4_1, a5_4, b5_4, a5_3, b5_3, a5_2, b5_2, a5_1, b5_1, n_i4', d_i4'], by simp, by simp [hne']⟩
  · rintro i x hh hx ⟨v1, v2, v3, v4, v5, v6⟩
    rw [round2]
    refine ⟨v5, ?_⟩
    have hx5 := len_enc x
    obtain ⟨xk, xt, xs, xm, xl⟩ := x
    rw [enc_mk] at *
    simp (config := {maxSteps := 1000000}) only [v2, v3, v4, v5, v6, asgK_normal, tbR_e, tb46r_e, zzK, seval]
    intro i7 f7
    have m_i2 : ¬ i7 = i2 := fun e => by subst e; rw [v2] at f7; cases f7
    have m_i2' : ¬ i2 = i7 := fun e => m_i2 e.symm
    have m_i3 : ¬ i7 = i3 := fun e => by subst e; rw [v3] at f7; cases f7
    have m_i3' : ¬ i3 = i7 := fun e => m_i3 e.symm
    have m_i4 : ¬ i7 = i4 := fun e => by subst e; rw [v4] at f7; cases f7
    have m_i4' : ¬ i4 = i7 := fun e => m_i4 e.symm
    have m_r : ¬ i7 = r := fun e => by subst e; rw [v5] at f7; cases f7
    have m_r' : ¬ r = i7 := fun e => m_r e.symm
    have m_rd : ¬ i7 = rd := fun e => by subst e; rw [v6] at f7; cases f7
    have m_rd' : ¬ rd = i7 := fun e => m_rd e.symm
    have hxi : (listF (.mk k t s m kids))[i]? = some (.mk xk xt xs xm xl) := hx
    cases c : ((i : Int) == p) with
    | false =>
      have c' : ¬ (i : Int) = p := by simpa using c
      simp (config := {maxSteps := 1000000}) only [c, v2, v3, v4, v5, v6, m_i2, m_i2', m_i3, m_i3', m_i4, m_i4', m_r, m_r', m_rd, m_rd', n_i2, n_i2', n_i3, n_i3', n_i4, n_i4', d_i2, d_i2', d_i3, d_i3', d_i4, d_i4', hne, hne', a2_1, b2_1, a3_2, b3_2, a3_1, b3_1, a4_3, b4_3, a4_2, b4_2, a4_1, b4_1, a5_4, b5_4, a5_3, b5_3, a5_2, b5_2, a5_1, b5_1, bodyK_eq, Ex.code, Option.isNone_none, AHeap.del_f, true_and, tbR_e, tb46r_e, zzK, seval]
      have c2t : p < 0 ∨ (i : Int) ≤ p := v1
      show p < 0 ∨ ((i + 1 : Nat) : Int) ≤ p
      omega
    | true =>
      have c' : (i : Int) = p := by simpa using c
      simp (config := {maxSteps := 1000000}) only [c, v2, v3, v4, v5, v6, m_i2, m_i2', m_i3, m_i3', m_i4, m_i4', m_r, m_r', m_rd, m_rd', n_i2, n_i2', n_i3, n_i3', n_i4, n_i4', d_i2, d_i2', d_i3, d_i3', d_i4, d_i4', hne, hne', a2_1, b2_1, a3_2, b3_2, a3_1, b3_1, a4_3, b4_3, a4_2, b4_2, a4_1, b4_1, a5_4, b5_4, a5_3, b5_3, a5_2, b5_2, a5_1, b5_1, bodyK_eq, Ex.code, Option.isNone_some, AHeap.del_f, true_and, tbR_e, tb46r_e, zzK, seval]
      refine rangeK_done (e := .ret) (by simp) ?_
      have hyes : atF (.mk k t s m kids) p = some (.mk xk xt xs xm xl) := by
        unfold atF
        rw [if_pos (by omega), ← c']
        exact hxi
      rw [hyes]
      simp (config := {maxSteps := 1000000}) only [v2, v3, v4, v5, v6, m_i2, m_i2', m_i3, m_i3', m_i4, m_i4', m_r, m_r', m_rd, m_rd', n_i2, n_i2', n_i3, n_i3', n_i4, n_i4', d_i2, d_i2', d_i3, d_i3', d_i4, d_i4', hne, hne', a2_1, b2_1, a3_2, b3_2, a3_1, b3_1, a4_3, b4_3, a4_2, b4_2, a4_1, b4_1, a5_4, b5_4, a5_3, b5_3, a5_2, b5_2, a5_1, b5_1, AHeap.del_f, retD_ret, leav_mark, leav_nil, finD, Option.getD_some, Option.isSome_some, enc_mk, zzK, seval]
      exact .inr ⟨_, AHeap.sub_refl _⟩
  · rintro hh ⟨v1, v2, v3, v4, v5, v6⟩
    refine rangeK_done v5 ?_
    have hno : atF (.mk k t s m kids) p = none := by
      unfold atF
      have v7 : p < 0 ∨ ((listF (.mk k t s m kids)).length : Int) ≤ p := v1
      split
      · rw [List.getElem?_eq_none]; omega
      · rfl
    rw [hno]
    simp (config := {maxSteps := 1000000}) only [v2, v3, v4, v5, v6, n_i2, n_i2', n_i3, n_i3', n_i4, n_i4', d_i2, d_i2', d_i3, d_i3', d_i4, d_i4', hne, hne', a2_1, b2_1, a3_2, b3_2, a3_1, b3_1, a4_3, b4_3, a4_2, b4_2, a4_1, b4_1, a5_4, b5_4, a5_3, b5_3, a5_2, b5_2, a5_1, b5_1, AHeap.del_f, retD_ret, leav_mark, leav_nil, finD, Option.getD_none, Option.isSome_none, zeroNd, enc_mk, encs_nil, zzK, seval]
    exact .inr ⟨_, AHeap.sub_refl _⟩
end
end Go.Proofs.YtpagdhbmbnoddaaGreatDoor.Zz
/- The law of ranks. -/
namespace Go.Proofs.YtpagdhbmbnoddaaGreatDoor.Zz
noncomputable section
set_option linter.unusedVariables false
set_option linter.unusedSimpArgs false
set_option maxRecDepth 20000
def p4q : Plan := ⟨⟨[(2, 0), (2, 1)], [], [], [], [], []⟩, [], [], false⟩
/-- cupel/cupellaw11.ParseRanks (1 parameters, 0 captured) -/
def s4q : Stm :=
 .seq (.ops [⟨.mov (.c (.bool false)), (some 2), none, true⟩])
 (.seq (.ops [⟨.buildSlice 1 [(.str [])] 13 [(0, (.c (.str [124, 124]))), (1, (.c (.str [38, 38]))), (2, (.c (.str [60]))), (3, (.c (.str [60, 61]))), (4, (.c (.str [62]))), (5, (.c (.str [62, 61]))), (6, (.c (.str [61, 61]))), (7, (.c (.str [33, 61]))), (8, (.c (.str [43]))), (9, (.c (.str [45]))), (10, (.c (.str [42]))), (11, (.c (.str [47]))), (12, (.c (.str [37])))] false, (some 15), none, true⟩,
 ⟨.mov (.t 15), (some 3), none, true⟩])
 (.seq (.ops [⟨.buildSlice 1 [(.str [])] 1 [(0, (.c (.str [97])))] true, (some 16), none, false⟩,
 ⟨.buildSlice 1 [(.str [])] 0 [] true, (some 17), none, false⟩,
 ⟨.mov (.t 16), (some 4), none, true⟩,
 ⟨.mov (.t 17), (some 5), none, true⟩])
 (.seq (.ops [⟨.mov (.c (.str [97])), (some 6), none, true⟩])
 (.seq (.seq (.ops [⟨.mov (.c (.int .i64 0)), (some 7), none, true⟩])
 (.block 0 (.loop (.seq (.seq (.ops [⟨.mov (.t 7), (some 18), none, true⟩,
 ⟨.mov (.t 0), (some 19), none, true⟩,
 ⟨.len .sl (.t 19), (some 20), none, false⟩,
 ⟨.bin .lss (.t 18) (.t 20), (some 21), none, true⟩,
 ⟨.mov (.t 21), (some 22), none, true⟩,
 ⟨.mov (.t 7), (some 23), (some (22, true)), true⟩,
 ⟨.bin .lss (.t 23) (.c (.int .i64 12)), (some 24), (some (22, true)), true⟩,
 ⟨.pick (.t 22) (.t 24) (.c (.bool false)), (some 25), none, true⟩])
 (.cond (.t 25)
 (.skip)
 (.exit 0)))
 (.seq (.block 1 (.seq (.ops [⟨.mov (.t 3), (some 28), none, true⟩,
 ⟨.mov (.t 0), (some 29), none, true⟩,
 ⟨.mov (.t 7), (some 30), none, true⟩,
 ⟨.indexAddrS 1 (.t 29) (.t 30), (some 31), none, false⟩,
 ⟨.load none (.t 31), (some 32), none, false⟩,
 ⟨.bin .rem (.t 32) (.c (.int .i64 13)), (some 33), none, true⟩,
 ⟨.bin .add (.t 33) (.c (.int .i64 13)), (some 34), none, true⟩,
 ⟨.bin .rem (.t 34) (.c (.int .i64 13)), (some 35), none, true⟩,
 ⟨.indexAddrS 1 (.t 28) (.t 35), (some 36), none, false⟩,
 ⟨.load none (.t 36), (some 37), none, false⟩,
 ⟨.mov (.t 37), (some 8), none, true⟩])
 (.seq (.ops [⟨.mov (.t 7), (some 38), none, true⟩,
 ⟨.bin .add (.c (.int .i64 98)) (.t 38), (some 39), none, true⟩,
 ⟨.conv (.intInt .u8) (.t 39), (some 40), none, true⟩,
 ⟨.buildSlice 1 [(.int .u8 0)] 1 [(0, (.t 40))] false, (some 41), none, true⟩,
 ⟨.conv .bytesStr (.t 41), (some 42), none, false⟩,
 ⟨.mov (.t 42), (some 9), none, true⟩])
 (.seq (.ops [⟨.mov (.t 4), (some 43), none, true⟩,
 ⟨.mov (.t 9), (some 44), none, true⟩,
 ⟨.buildSlice 1 [(.str [])] 1 [(0, (.t 44))] false, (some 45), none, true⟩,
 ⟨.append 1 16 false (.t 43) (.t 45), (some 46), none, false⟩,
 ⟨.mov (.t 5), (some 47), none, true⟩,
 ⟨.mov (.t 8), (some 48), none, true⟩,
 ⟨.buildSlice 1 [(.str [])] 1 [(0, (.t 48))] false, (some 49), none, true⟩,
 ⟨.append 1 16 false (.t 47) (.t 49), (some 50), none, false⟩,
 ⟨.mov (.t 46), (some 4), none, true⟩,
 ⟨.mov (.t 50), (some 5), none, true⟩])
 (.ops [⟨.mov (.t 6), (some 51), none, true⟩,
 ⟨.mov (.t 8), (some 52), none, true⟩,
 ⟨.bin .add (.c (.str [32])) (.t 52), (some 53), none, true⟩,
 ⟨.bin .add (.t 53) (.c (.str [32])), (some 54), none, true⟩,
 ⟨.mov (.t 9), (some 55), none, true⟩,
 ⟨.bin .add (.t 54) (.t 55), (some 56), none, true⟩,
 ⟨.bin .add (.t 51) (.t 56), (some 57), none, true⟩,
 ⟨.mov (.t 57), (some 6), none, true⟩])))))
 (.ops [⟨.mov (.t 7), (some 26), none, true⟩,
 ⟨.bin .add (.t 26) (.c (.int .i64 1)), (some 27), none, true⟩,
 ⟨.mov (.t 27), (some 7), none, true⟩]))))))
 (.seq (.ops [⟨.mov (.t 6), (some 59), none, true⟩,
 ⟨.bin .add (.c (.str [116, 101, 115, 116, 32, 116, 32, 123, 32, 97, 115, 115, 101, 114, 116, 32])) (.t 59), (some 60), none, true⟩,
 ⟨.bin .add (.t 60) (.c (.str [59, 32, 125])), (some 61), none, true⟩,
 ⟨.qcall (.f 7) [(.t 61)], (some 62), none, false⟩,
 ⟨.mov (.t 62), (some 58), none, true⟩,
 ⟨.extract (.t 58) 0, (some 63), none, true⟩,
 ⟨.extract (.t 58) 1, (some 64), none, true⟩,
 ⟨.extract (.t 58) 2, (some 65), none, true⟩,
 ⟨.alloc [(.int .i64 0), (.int .i64 0), (.str []), (.int .i64 0), .nilsl], (some 10), none, false⟩,
 ⟨.store 5 (.t 10) (.t 63), none, none, false⟩,
 ⟨.mov (.t 64), (some 11), none, true⟩,
 ⟨.mov (.t 65), (some 12), none, true⟩])
 (.seq (.seq (.ops [⟨.qcall (.f 10) [], (some 66), none, false⟩,
 ⟨.un .not (.t 66), (some 67), none, true⟩,
 ⟨.mov (.t 67), (some 68), none, true⟩,
 ⟨.mov (.t 12), (some 69), (some (68, false)), true⟩,
 ⟨.bin .neq (.t 69) (.c (.int .i64 0)), (some 70), (some (68, false)), true⟩,
 ⟨.pick (.t 68) (.c (.bool true)) (.t 70), (some 71), none, true⟩])
 (.cond (.t 71)
 (.seq (.ops [⟨.mov (.c (.bool false)), (some 2), none, true⟩])
 (.ret))
 (.skip)))
 (.seq (.ops [⟨.load (some 5) (.t 10), (some 73), none, false⟩,
 ⟨.qcall (.f 11) [(.t 73), (.c (.int .i64 4))], (some 74), none, false⟩,
 ⟨.mov (.t 74), (some 72), none, true⟩,
 ⟨.extract (.t 72) 0, (some 75), none, true⟩,
 ⟨.extract (.t 72) 1, (some 76), none, true⟩,
 ⟨.alloc [(.int .i64 0), (.int .i64 0), (.str []), (.int .i64 0), .nilsl], (some 13), none, false⟩,
 ⟨.store 5 (.t 13) (.t 75), none, none, false⟩,
 ⟨.mov (.t 76), (some 14), none, true⟩])
 (.seq (.ops [⟨.mov (.t 14), (some 77), none, true⟩,
 ⟨.mov (.t 77), (some 78), none, true⟩,
 ⟨.load (some 5) (.t 13), (some 79), (some (78, true)), false⟩,
 ⟨.qcall (.f 12) [(.t 79)], (some 80), (some (78, true)), false⟩,
 ⟨.mov (.t 4), (some 81), (some (78, true)), true⟩,
 ⟨.mov (.t 5), (some 82), (some (78, true)), true⟩,
 ⟨.qcall (.f 13) [(.t 81), (.t 82)], (some 83), (some (78, true)), false⟩,
 ⟨.bin .eql (.t 80) (.t 83), (some 84), (some (78, true)), true⟩,
 ⟨.pick (.t 78) (.t 84) (.c (.bool false)), (some 85), none, true⟩,
 ⟨.mov (.t 85), (some 2), none, true⟩])
 (.ret)))))))))
theorem st4q : stmOf Tryz.prog 4 p4q = some (s4q, [.tmp 2], 86) := by kernel_rfl

def p10q : Plan := ⟨⟨[], [], [], [], [], []⟩, [], [], false⟩
/-- cupel/cupellaw11.awake (0 parameters, 0 captured) -/
def s10q : Stm :=
 .seq (.ops [⟨.mov (.c (.bool false)), (some 0), none, true⟩])
 (.seq (.ops [⟨.qcall (.f 7) [(.c (.str [102, 117, 110, 99, 32, 102, 40, 97, 32, 105, 110, 116, 41, 32, 105, 110, 116, 32, 123, 32, 114, 101, 116, 117, 114, 110, 32, 97, 32, 45, 32, 49, 32, 45, 32, 50, 32, 42, 32, 51, 59, 32, 125]))], (some 5), none, false⟩,
 ⟨.mov (.t 5), (some 4), none, true⟩,
 ⟨.extract (.t 4) 0, (some 6), none, true⟩,
 ⟨.extract (.t 4) 1, (some 7), none, true⟩,
 ⟨.extract (.t 4) 2, (some 8), none, true⟩,
 ⟨.alloc [(.int .i64 0), (.int .i64 0), (.str []), (.int .i64 0), .nilsl], (some 1), none, false⟩,
 ⟨.store 5 (.t 1) (.t 6), none, none, false⟩,
 ⟨.mov (.t 7), (some 2), none, true⟩,
 ⟨.mov (.t 8), (some 3), none, true⟩])
 (.seq (.ops [⟨.mov (.t 3), (some 9), none, true⟩,
 ⟨.bin .eql (.t 9) (.c (.int .i64 0)), (some 10), none, true⟩,
 ⟨.mov (.t 10), (some 11), none, true⟩,
 ⟨.load (some 5) (.t 1), (some 12), (some (11, true)), false⟩,
 ⟨.qcall (.f 12) [(.t 12)], (some 13), (some (11, true)), false⟩,
 ⟨.bin .eql (.t 13) (.c (.str [102, 117, 110, 99, 32, 102, 40, 97, 32, 105, 110, 116, 41, 32, 105, 110, 116, 32, 123, 32, 114, 101, 116, 117, 114, 110, 32, 40, 40, 97, 32, 45, 32, 49, 41, 32, 45, 32, 40, 50, 32, 42, 32, 51, 41, 41, 59, 32, 125, 10])), (some 14), (some (11, true)), true⟩,
 ⟨.pick (.t 11) (.t 14) (.c (.bool false)), (some 15), none, true⟩,
 ⟨.mov (.t 15), (some 0), none, true⟩])
 (.ret)))
theorem st10q : stmOf Tryz.prog 10 p10q = some (s10q, [.tmp 0], 16) := by kernel_rfl

def okXb : Nd → Bool
  | .mk _ _ s m _ => decide (-9223372036854775808 ≤ m) && decide (m ≤ 9223372036854775807) && decide (s.length ≤ 1000000000000)
theorem okX_of : ∀ n : Nd, okXb n = true → okX n
  | .mk k t s m l, h => by
    simp only [okXb, Bool.and_eq_true, decide_eq_true_eq] at h
    exact ⟨h.1.1, h.1.2, h.2⟩
def okB (n : Nd) : Bool := decide (n.cnt ≤ 1000000000) && decide ((printF n).length ≤ 1000000000000) && (listF n).all okXb
theorem okN_of {n : Nd} (h : okB n = true) : okN n := by
  simp only [okB, Bool.and_eq_true, decide_eq_true_eq, List.all_eq_true] at h
  exact ⟨h.1.1, h.1.2, fun x hx => okX_of x (h.2 x hx)⟩
def qP11 : List D → Option D := qParse 11
theorem qP11_ok (args : List D) (d : D) (h : qP11 args = some d) : PCall Tryz.prog 7 args d := qParse_ok 11 args d h
def awkT : List UInt8 := [102, 117, 110, 99, 32, 102, 40, 97, 32, 105, 110, 116, 41, 32, 105, 110, 116, 32, 123, 32, 114, 101, 116, 117, 114, 110, 32, 97, 32, 45, 32, 49, 32, 45, 32, 50, 32, 42, 32, 51, 59, 32, 125]
def awkN : Nd := .mk 1 0 [] 0 [.mk 3 1 [102] 0 [.mk 5 1 [97] 0 [], .mk 6 0 [] 0 [.mk 11 0 [] 0 [.mk 26 0 [45] 0 [.mk 26 0 [45] 0 [.mk 23 0 [97] 0 [], .mk 20 0 [] 1 []], .mk 26 0 [42] 0 [.mk 20 0 [] 2 [], .mk 20 0 [] 3 []]]]]]]
theorem awk_parse : parseF 11 awkT = some (awkN, 0, 0) := parse_of (ws := [(0, [])]) (m := 12) (by kernel_rfl) (by kernel_rfl)
theorem awk_ok : okN awkN := okN_of (by kernel_rfl)
def awkP : List UInt8 := [102, 117, 110, 99, 32, 102, 40, 97, 32, 105, 110, 116, 41, 32, 105, 110, 116, 32, 123, 32, 114, 101, 116, 117, 114, 110, 32, 40, 40, 97, 32, 45, 32, 49, 41, 32, 45, 32, 40, 50, 32, 42, 32, 51, 41, 41, 59, 32, 125, 10]
theorem awk_print : printF awkN = awkP := by kernel_rfl
def tqa : Tab := Tab.zero.addQ 7 qP11
theorem tqa_q (g : FuncId) (args : List D) : tqa.q g args = if g = 7 then qP11 args else Tab.zero.q g args := rfl
theorem tqa_a : tqa.a = Tab.zero.a := rfl
theorem tqa_c : tqa.c = Tab.zero.c := rfl
theorem tqa_ok : tqa.ok Tryz.prog := Tab.addQ_ok (Tab.zero_ok _) qP11_ok
theorem tqa_e : type_of% (And.intro @tqa_q (And.intro @tqa_a @tqa_c)) := (And.intro @tqa_q (And.intro @tqa_a @tqa_c))

def tqb : Tab := tqa.addQ 12 q12rp
theorem tqb_q (g : FuncId) (args : List D) : tqb.q g args = if g = 12 then q12rp args else tqa.q g args := rfl
theorem tqb_a : tqb.a = tqa.a := rfl
theorem tqb_c : tqb.c = tqa.c := rfl
theorem tqb_ok : tqb.ok Tryz.prog := Tab.addQ_ok tqa_ok q12rp_ok
theorem tqb_e : type_of% (And.intro (And.intro @tqb_q (And.intro @tqb_a @tqb_c)) @tqa_e) := (And.intro (And.intro @tqb_q (And.intro @tqb_a @tqb_c)) @tqa_e)

theorem awake11_c : PCall Tryz.prog 10 [] (.bool true) := by
  refine PCall.run tqb_ok st10q (by simp) fun E => ?_
  have h1 : qP11 [.str awkT] = some (.tuple [.agg awkN.enc, .int .i64 0, .int .i64 0]) := by
    simp only [qP11, qParse, awk_parse, Option.map_some]
  have h2 := q12rp_eq awk_ok
  rw [awk_print] at h2
  have hn5 := len_enc awkN
  generalize awkN = n at h1 h2 hn5
  obtain ⟨k, t, s, m, l⟩ := n
  rw [enc_mk] at *
  unfold awkT at h1
  unfold awkP at h2
  simp (config := {maxSteps := 1000000}) only [s10q, h1, h2, tqb_e, zzK, seval]
def q10q : List D → Option D
  | [] => some (.bool true)
  | _ => none
theorem q10q_ok (args : List D) (d : D) (h : q10q args = some d) : PCall Tryz.prog 10 args d := by
  unfold q10q at h
  split at h
  · cases h; exact awake11_c
  · cases h
open Classical in
def q11q : List D → Option D
  | [.agg ds, .int .i64 p] => match decN ds with
    | some n => if n.cnt ≤ 100000000 then some (.tuple [.agg ((atF n p).getD zeroNd).enc, .bool (atF n p).isSome]) else none
    | none => none
  | _ => none
theorem q11q_ok (args : List D) (d : D) (h : q11q args = some d) : PCall Tryz.prog 11 args d := by
  unfold q11q at h
  split at h
  · split at h
    · rename_i n hn
      split at h
      · rename_i c
        cases h
        rw [decN_some hn]
        exact at_c n _ c
      · cases h
    · cases h
  · cases h
theorem q11q_eq {n : Nd} {p : Int} (h : n.cnt ≤ 100000000) : q11q [.agg n.enc, .int .i64 p] = some (.tuple [.agg ((atF n p).getD zeroNd).enc, .bool (atF n p).isSome]) := by
  simp only [q11q, decN_enc]; rw [if_pos h]
def q13q : List D → Option D := q13f 100
theorem q13q_ok (args : List D) (d : D) (h : q13q args = some d) : PCall Tryz.prog 13 args d := q13f_ok 100 args d h
def tqc : Tab := tqb.addQ 10 q10q
theorem tqc_q (g : FuncId) (args : List D) : tqc.q g args = if g = 10 then q10q args else tqb.q g args := rfl
theorem tqc_a : tqc.a = tqb.a := rfl
theorem tqc_c : tqc.c = tqb.c := rfl
theorem tqc_ok : tqc.ok Tryz.prog := Tab.addQ_ok tqb_ok q10q_ok
theorem tqc_e : type_of% (And.intro (And.intro @tqc_q (And.intro @tqc_a @tqc_c)) @tqb_e) := (And.intro (And.intro @tqc_q (And.intro @tqc_a @tqc_c)) @tqb_e)

def tqd : Tab := tqc.addQ 11 q11q
theorem tqd_q (g : FuncId) (args : List D) : tqd.q g args = if g = 11 then q11q args else tqc.q g args := rfl
theorem tqd_a : tqd.a = tqc.a := rfl
theorem tqd_c : tqd.c = tqc.c := rfl
theorem tqd_ok : tqd.ok Tryz.prog := Tab.addQ_ok tqc_ok q11q_ok
theorem tqd_e : type_of% (And.intro (And.intro @tqd_q (And.intro @tqd_a @tqd_c)) @tqc_e) := (And.intro (And.intro @tqd_q (And.intro @tqd_a @tqd_c)) @tqc_e)

def tqe : Tab := tqd.addQ 13 q13q
theorem tqe_q (g : FuncId) (args : List D) : tqe.q g args = if g = 13 then q13q args else tqd.q g args := rfl
theorem tqe_a : tqe.a = tqd.a := rfl
theorem tqe_c : tqe.c = tqd.c := rfl
theorem tqe_ok : tqe.ok Tryz.prog := Tab.addQ_ok tqd_ok q13q_ok
theorem tqe_e : type_of% (And.intro (And.intro @tqe_q (And.intro @tqe_a @tqe_c)) @tqd_e) := (And.intro (And.intro @tqe_q (And.intro @tqe_a @tqe_c)) @tqd_e)

/-- The sign that a pick stands for. -/
def sgI (p : Int) : Int := Int.tmod (Int.tmod p 13 + 13) 13
theorem sgI_range (p : Int) : 0 ≤ sgI p ∧ sgI p < 13 := by
  unfold sgI
  have h1 := Int.tmod_lt_of_pos p (show (0 : Int) < 13 by decide)
  have h2 : -13 < Int.tmod p 13 := by
    have := Int.lt_tmod_of_pos p (show (0 : Int) < 13 by decide)
    omega
  have h3 : 0 ≤ Int.tmod p 13 + 13 := by omega
  rw [Int.tmod_eq_emod_of_nonneg h3]
  omega
def sgP (p : Int) : List UInt8 := sgnL.getD (sgI p).toNat []
theorem sgP_get (p : Int) : sgnL[(sgI p).toNat]? = some (sgP p) := by
  have := sgI_range p
  have hl : sgnL.length = 13 := rfl
  unfold sgP
  rw [List.getD_eq_getElem?_getD, List.getElem?_eq_getElem (by omega)]; rfl
def nmC (j : Nat) : UInt8 := UInt8.ofNat (98 + j)
def rowP (picks : List Int) (n : Nat) : Row := (List.range n).map fun j => (sgP (picks.getD j 0), [nmC j])
theorem rowP_succ (picks : List Int) (n : Nat) : rowP picks (n + 1) = rowP picks n ++ [(sgP (picks.getD n 0), [nmC n])] := by
  simp [rowP, List.range_succ]
theorem rowP_len (picks : List Int) (n : Nat) : (rowP picks n).length = n := by simp [rowP]
theorem rowP_ok (picks : List Int) (n : Nat) (h : n ≤ 12) : rowOk (rowP picks n) := by
  intro x hx
  obtain ⟨j, hj, rfl⟩ := List.mem_map.1 hx
  refine ⟨List.mem_of_getElem? (sgP_get _), nmC j, rfl, ?_⟩
  have : ∀ i : Fin 12, isLetter ((nmC i.1).toNat : Int) = true := by decide
  exact this ⟨j, by simp at hj; omega⟩
theorem rowT_app (a b : Row) (t : List UInt8) : rowT (a ++ b) t = rowT a (rowT b t) := by
  induction a with
  | nil => rfl
  | cons x a ih => obtain ⟨s, v⟩ := x; simp only [List.cons_append, rowT, ih]
theorem rowT_end (a : Row) (t : List UInt8) : rowT a t = rowT a [] ++ t := by
  induction a with
  | nil => rfl
  | cons x a ih => obtain ⟨s, v⟩ := x; simp only [rowT, List.cons_append, List.append_assoc, ← ih]
theorem cnt_rt : ∀ t : RT, t.nd.cnt = 2 * t.sgs.length + 1
  | .leaf v => by rw [RT.nd, cnt_mk, cnts_nil]; rfl
  | .node s l r => by
    rw [RT.nd, cnt_mk, cnts_cons, cnts_cons, cnts_nil, cnt_rt l, cnt_rt r, RT.sgs, List.length_append, List.length_cons]; omega
theorem prT_len (B : Nat) : ∀ t : RT, (∀ x ∈ t.names, x.length ≤ B) → (∀ x ∈ t.sgs, x.length ≤ B) → (prT t).length ≤ B + (2 * B + 4) * t.sgs.length
  | .leaf v, h, _ => by have := h v (by simp [RT.names]); simp only [prT, RT.sgs, List.length_nil]; omega
  | .node s l r, h, g => by
    have h1 := prT_len B l (fun x hx => h x (by simp [RT.names, hx])) (fun x hx => g x (by simp [RT.sgs, hx]))
    have h2 := prT_len B r (fun x hx => h x (by simp [RT.names, hx])) (fun x hx => g x (by simp [RT.sgs, hx]))
    have h3 := g s (by simp [RT.sgs])
    simp only [prT, RT.sgs, List.length_append, List.length_cons, List.length_nil]
    have e : (2 * B + 4) * (l.sgs.length + (r.sgs.length + 1)) = (2 * B + 4) * l.sgs.length + ((2 * B + 4) * r.sgs.length + (2 * B + 4)) := by rw [Nat.mul_add, Nat.mul_add, Nat.mul_one]
    rw [e]
    omega
theorem okX_rt (B : Nat) (hB : B ≤ 1000) : ∀ t : RT, (∀ x ∈ t.names, x.length ≤ B) → (∀ x ∈ t.sgs, x.length ≤ B) → ∀ x ∈ listF t.nd, okX x
  | .leaf v, h, _, x, hx => by
    rw [RT.nd, listF_mk, listFs_nil, List.mem_singleton] at hx
    subst hx
    have := h v (by simp [RT.names])
    exact ⟨by decide, by decide, by omega⟩
  | .node s l r, h, g, x, hx => by
    rw [RT.nd, listF_mk, listFs_cons, listFs_cons, listFs_nil, List.append_nil, List.mem_cons, List.mem_append] at hx
    rcases hx with rfl | hx | hx
    · have := g s (by simp [RT.sgs])
      exact ⟨by decide, by decide, by omega⟩
    · exact okX_rt B hB l (fun x hx => h x (by simp [RT.names, hx])) (fun x hx => g x (by simp [RT.sgs, hx])) x hx
    · exact okX_rt B hB r (fun x hx => h x (by simp [RT.names, hx])) (fun x hx => g x (by simp [RT.sgs, hx])) x hx
/-- What the law asks of a row. -/
theorem row_all (r : Row) (hr : rowOk r) (hl : r.length ≤ 12) : ∃ n x : Nd, parseF 11 (rowProg r) = some (n, 0, 0) ∧ n.cnt ≤ 100000000 ∧ atF n 4 = some x ∧ okN x ∧ (cutF 100 ([97] :: r.map (·.2)) (r.map (·.1))).length ≤ 1000000000000 ∧ printF x = cutF 100 ([97] :: r.map (·.2)) (r.map (·.1)) := by
  obtain ⟨t, h1, h2, h3, h4⟩ := row_parse r hr hl
  have hsl : t.sgs.length = r.length := by rw [h4, List.length_map]
  have hsg : ∀ x ∈ t.sgs, x ∈ sgnL := fun x hx => by
    rw [h4] at hx
    obtain ⟨y, hy, rfl⟩ := List.mem_map.1 hx
    exact (hr y hy).1
  have b1 : ∀ x ∈ t.sgs, x.length ≤ 2 := fun x hx => (sg_tok x (hsg x hx)).2.2.2
  have b2 : ∀ x ∈ t.names, x.length ≤ 2 := fun x hx => by
    rw [h3] at hx
    rcases List.mem_cons.1 hx with e | e
    · subst e; decide
    · obtain ⟨y, hy, rfl⟩ := List.mem_map.1 e
      obtain ⟨c, hc, _⟩ := (hr y hy).2
      rw [hc]; simp
  have hc := cut_eq t 100 h2 hsg (by omega)
  have hln := prT_len 2 t b2 b1
  have hcnt := cnt_rt t
  rw [h3, h4] at hc
  refine ⟨rowTree t, t.nd, h1, ?_, ?_, ⟨by omega, by rw [prT_print]; omega, okX_rt 2 (by omega) t b2 b1⟩, by rw [hc]; omega, by rw [hc, prT_print]⟩
  · rw [rowTree]
    simp only [cnt_mk, cnts_cons, cnts_nil]
    omega
  · unfold atF rowTree
    rw [if_pos (by decide)]
    simp only [listF_mk, listFs_cons, listFs_nil, List.append_nil, List.cons_append, List.nil_append]
    show (listF t.nd)[0]? = _
    cases t with
    | leaf v => rw [RT.nd, listF_mk]; rfl
    | node s l r => rw [RT.nd, listF_mk]; rfl
theorem askE_encI1 {K : D → AHeap → Prop} {h : AHeap} {l : List Int} {i : Nat} {x : Int} (e : l[i]? = some x) : askE 1 K h (encI l) (i : Int) = K (.eptr [.int .i64 x] 0) h := by
  have h1 := (List.getElem?_eq_some_iff.1 e).1
  rw [askE_encI]
  apply propext
  constructor
  · intro hh; exact hh.2 _ (by simpa using e)
  · intro hh
    refine ⟨⟨by omega, by omega⟩, fun y hy => ?_⟩
    rw [Int.toNat_natCast, e] at hy
    cases hy
    exact hh
set_option maxHeartbeats 1000000 in
theorem parseRanks_c (picks : List Int) : PCall Tryz.prog 4 [.sl (encI picks)] (.bool true) := by
  refine PCall.run tqe_ok st4q (by simp) fun E => ?_
  simp (config := {maxSteps := 1000000}) only [s4q, tqe_e, zzK, seval]
  intro i1 i2 n21 n12
  refine run_loop (X := Nat) (fun i => [(0, .sl (encI picks)), (3, .sl (encS sgnL)), (4, .row i1 (i + 1 + 2) 0 (i + 1)), (5, .row i2 (i + 2) 0 i), (6, .str (97 :: rowT (rowP picks i) [])), (7, .int .i64 i)])
    (fun i => (AHeap.emp.set i1 (.row 1 (i + 1 + 2) (encS ([97] :: (rowP picks i).map (·.2))) false)).set i2 (.row 1 (i + 2) (encS ((rowP picks i).map (·.1))) false)) (fun i => 13 - i) (fun i => i ≤ 12 ∧ i ≤ picks.length) 0 ⟨Nat.zero_le _, Nat.zero_le _⟩ (by simp only [rowP, List.range_zero, List.map_nil, rowT, sgnL, encS, List.map_cons, zzK, seval]) (by simp only [rowP, List.range_zero, List.map_nil, encS, List.map_cons]; exact AHeap.sub_refl _) ?_
  rintro i Q ⟨hi1, hi2⟩ hQ
  have hrl := rowP_len picks i
  have hok := rowP_ok picks i hi1
  have hT := rowT_len [] (rowP picks i) hok
  have wi : IntKind.i64.wrap ((i : Int) + 1) = ((i + 1 : Nat) : Int) := wrap_succ (by omega)
  by_cases ci : i < picks.length ∧ i < 12
  · have g1 : ((i : Int) < (picks.length : Int)) = True := eq_true (by omega)
    have g2 : ((i : Int) < 12) = True := eq_true (by omega)
    obtain ⟨p, hp⟩ : ∃ p, picks[i]? = some p := ⟨_, List.getElem?_eq_getElem ci.1⟩
    have hg : picks.getD i 0 = p := by rw [List.getD_eq_getElem?_getD, hp]; rfl
    have hap : ∀ (K : D → AHeap → Prop) (h : AHeap), askE 1 K h (encI picks) (i : Int) = K (.eptr [.int .i64 p] 0) h := fun K h => askE_encI1 hp
    obtain ⟨r1, r2⟩ := sgI_range p
    have hsg := sgP_get p
    have has : ∀ (K : D → AHeap → Prop) (h : AHeap), askE 1 K h (encS sgnL) (sgI p) = K (.eptr [.str (sgP p)] 0) h := fun K h => by
      have := askE_encS1 (K := K) (h := h) hsg
      rw [Int.toNat_of_nonneg r1] at this
      exact this
    have wc : IntKind.i64.wrap (98 + (i : Int)) = ((98 + i : Nat) : Int) := by rw [wrap_i64 (by omega) (by omega)]; omega
    have wb : IntKind.u8.wrap ((98 + i : Nat) : Int) = ((98 + i : Nat) : Int) := by
      have : ∀ i : Fin 12, IntKind.u8.wrap ((98 + i.1 : Nat) : Int) = ((98 + i.1 : Nat) : Int) := by decide
      exact this ⟨i, by omega⟩
    have hsl : (sgP p).length ≤ 2 := (sg_tok _ (List.mem_of_getElem? hsg)).2.2.2
    have hlb : ((rowP picks i).map (·.1)).length = i := by rw [List.length_map, hrl]
    have hln : ([97] :: (rowP picks i).map (·.2)).length = i + 1 := by rw [List.length_cons, List.length_map, hrl]
    have w13 : IntKind.i64.wrap (Int.tmod p 13 + 13) = Int.tmod p 13 + 13 := by
      have h1 := Int.tmod_lt_of_pos p (show (0 : Int) < 13 by decide)
      have h2 := Int.lt_tmod_of_pos p (show (0 : Int) < 13 by decide)
      exact wrap_i64 (by omega) (by omega)
    have e13 : Int.tmod (Int.tmod p 13 + 13) 13 = sgI p := rfl
    have hX : (97 :: rowT (rowP picks i) []).length ≤ 61 := by simp only [List.length_cons, List.length_nil] at hT ⊢; omega
    simp (config := {maxSteps := 1000000}) only [g1, g2, hap, has, w13, e13, wi, wc, wb, n21, n12, len_encI, len_encS, hlb, hln, tqe_e, zzK, seval]
    intro _
    refine ⟨by omega, by omega, by omega, by omega, by (simp only [List.length_append, List.length_cons, List.length_nil]); omega, by (simp only [List.length_append, List.length_cons, List.length_nil] at hT ⊢); omega, hQ (i + 1) _ _ ⟨by omega, by omega⟩ (by
      simp only [zzK, seval]
      rw [rowP_succ, rowT_app, rowT_end _ (rowT _ _), hg]
      simp [rowT, nmC]) ?_ (by omega)⟩
    have e1 : encS ([97] :: (rowP picks (i + 1)).map (·.2)) = encS ([97] :: (rowP picks i).map (·.2)) ++ [[.str [UInt8.ofNat (98 + i)]]] := by
      rw [rowP_succ]; simp [encS, nmC]
    have e2 : encS ((rowP picks (i + 1)).map (·.1)) = encS ((rowP picks i).map (·.1)) ++ [[.str (sgP p)]] := by
      rw [rowP_succ, hg]; simp [encS]
    rw [e1, e2]
    exact AHeap.sub_X (AHeap.subX_l (by simp) (AHeap.subX_l (by simp [n21, n12]) AHeap.subX_emp))
  · have hl : (rowP picks i).length ≤ 12 := by omega
    obtain ⟨n, x, a1, a2, a3, a4, a5, a6⟩ := row_all (rowP picks i) hok hl
    have hp : qP11 [.str (rowProg (rowP picks i))] = some (.tuple [.agg n.enc, .int .i64 0, .int .i64 0]) := by
      simp only [qP11, qParse, a1, Option.map_some]
    have hq10 : q10q [] = some (.bool true) := rfl
    have hq11 : q11q [.agg n.enc, .int .i64 4] = some (.tuple [.agg x.enc, .bool true]) := by
      rw [q11q_eq a2, a3]; rfl
    have hq12 := q12rp_eq a4
    have hq13 : q13q [.sl (encS ([97] :: (rowP picks i).map (·.2))), .sl (encS ((rowP picks i).map (·.1)))] = some (.str (printF x)) := by
      rw [a6]
      exact q13f_eq (by simp) (by rw [List.length_map]; omega) (by rw [List.length_map]; omega) a5
    have hprog : 116 :: 101 :: 115 :: 116 :: 32 :: 116 :: 32 :: 123 :: 32 :: 97 :: 115 :: 115 :: 101 :: 114 :: 116 :: 32 :: ((97 :: rowT (rowP picks i) []) ++ [59, 32, 125]) = rowProg (rowP picks i) := by
      rw [rowProg, rowT_end (rowP picks i) [59, 32, 125]]; rfl
    have hX : (97 :: rowT (rowP picks i) []).length ≤ 61 := by simp only [List.length_cons, List.length_nil] at hT ⊢; omega
    have hlb : ((rowP picks i).map (·.1)).length = i := by rw [List.length_map, hrl]
    have hln : ([97] :: (rowP picks i).map (·.2)).length = i + 1 := by rw [List.length_cons, List.length_map, hrl]
    have htb : (encS ((rowP picks i).map (·.1))).take i = encS ((rowP picks i).map (·.1)) := List.take_of_length_le (by rw [len_encS]; omega)
    have htn : (encS ([97] :: (rowP picks i).map (·.2))).take (i + 1) = encS ([97] :: (rowP picks i).map (·.2)) := List.take_of_length_le (by rw [len_encS]; omega)
    have hEB : (encS ((rowP picks i).map (·.1))).length = i := by rw [len_encS, hlb]
    generalize printF x = px at *
    generalize rowProg (rowP picks i) = prog at *
    generalize (97 :: rowT (rowP picks i) []) = X0 at *
    generalize encS ((rowP picks i).map (·.1)) = EB at *
    have hn5 := len_enc n
    have hx5 := len_enc x
    obtain ⟨nk, nt, ns, nm, nl⟩ := n
    obtain ⟨xk, xt, xs, xm, xl⟩ := x
    simp only [enc_mk] at hq11 hq12 hp hn5 hx5
    by_cases c1q : i < picks.length
    · have g1 : ((i : Int) < (picks.length : Int)) = True := eq_true (by omega)
      have g2 : ((i : Int) < 12) = False := eq_false (by omega)
      simp (config := {maxSteps := 1000000}) only [g1, g2, hp, hq10, hq11, hq12, hq13, hprog, n21, n12, hEB, len_encI, len_encS, hlb, hln, htb, htn, tqe_e, zzK, seval]
      intro _
      refine ⟨by omega, by omega, ?_⟩
      intro i3 a1 b1 a2 b2 i4 a3 b3 a4 b4 a5 b5
      simp (config := {maxSteps := 1000000}) only [a1, b1, a2, b2, a3, b3, a4, b4, a5, b5, hp, hq10, hq11, hq12, hq13, n21, n12, hEB, len_encI, len_encS, hlb, hln, htb, htn, tqe_e, zzK, seval]
    · have g1 : ((i : Int) < (picks.length : Int)) = False := eq_false (by omega)
      simp (config := {maxSteps := 1000000}) only [g1, hp, hq10, hq11, hq12, hq13, hprog, n21, n12, hEB, len_encI, len_encS, hlb, hln, htb, htn, tqe_e, zzK, seval]
      intro _
      refine ⟨by omega, by omega, ?_⟩
      intro i3 a1 b1 a2 b2 i4 a3 b3 a4 b4 a5 b5
      simp (config := {maxSteps := 1000000}) only [a1, b1, a2, b2, a3, b3, a4, b4, a5, b5, hp, hq10, hq11, hq12, hq13, n21, n12, hEB, len_encI, len_encS, hlb, hln, htb, htn, tqe_e, zzK, seval]
end
end Go.Proofs.YtpagdhbmbnoddaaGreatDoor.Zz
/- From a contract to a row: what a law's call leaves behind, and its arguments as plain data. -/
set_option linter.unusedVariables false
set_option linter.unusedSimpArgs false
namespace Go.Proofs.YtpagdhbmbnoddaaGreatDoor.Zz
open Go.RowKit

/-- All that was there does not change. -/
def old (w : World) : Kap := { imm := fun b => b < w.heap.size, loc := fun _ => none }
theorem old_inv [Globs] (w : World) (hg : GlobRep (old w) w) : Inv (old w) .emp w :=
  ⟨fun b h => h, fun i p h => (by cases h), ⟨0, fun _ _ => rfl⟩, fun i o h => (by cases h), fun i j oi oj pi pj h => (by cases h), hg⟩

theorem law_of [Globs] {P : Program} {f : FuncId} {args : List D} (c : PCall P f args (.bool true)) {vs : Array Value} {w : World} (hg : GlobRep (old w) w) (hr : RepL (old w) w vs.toList args) :
    Calls P f vs w fun e w' => e = .returned (.bool true) ∧ Below w.heap.size w w' :=
  (c.2 (old w) w vs (old_inv w hg) hr).mono fun e w' ⟨o, h', κ', e1, r, i, ev⟩ => by
    subst e1
    cases r with
    | ret r =>
      cases r
      refine ⟨rfl, ev.os, ev.tape, ev.output, ev.size, fun k hk => ev.blocks k hk fun ho => ?_⟩
      obtain ⟨id, o, p, h, _⟩ := ho
      simp at h

theorem rep_string {κ : Kap} {w : World} {s : ByteArray} (h : s.size ≤ maxLen) : Rep κ w (.string s) (.str s.data.toList) := by
  have := Rep.str (κ := κ) (w := w) s.data.toList (by
    have : s.data.toList.length = s.size := by simp
    rw [this]
    have h2 : maxLen ≤ 9223372036854775807 := by decide
    omega)
  simpa using this

theorem cell_lt {w : World} {b o : Nat} {v : Value} (h : w.cell? ⟨b, o, none⟩ = some v) : b < w.heap.size := by
  simp only [World.cell?] at h
  cases e : w.heap[b]? with
  | none => simp [e] at h
  | some x => exact (Array.getElem?_eq_some_iff.1 e).1

/-- A slice of single cells that came in. -/
theorem rep_slice1 {w : World} {a : Addr} {len cap : Nat} (f : Nat → Value) (g : Nat → D) (hl : len ≤ cap) (hm : cap ≤ maxLen) (hc : ∀ i, i < len → w.cell? (a.add i) = some (f i)) (hr : ∀ i, i < len → Rep (old w) w (f i) (g i)) :
    Rep (old w) w (.slice (some a) len cap) (.sl ((List.range len).map fun i => [g i])) := by
  by_cases h0 : len = 0
  · subst h0; exact .slnil (fun h => by cases h)
  · obtain ⟨b, o, sp⟩ := a
    have hs : sp = none := by simpa [Addr.add] using World.cell?_spot (hc 0 (by omega))
    subst hs
    have h2 : maxLen ≤ 9223372036854775807 := by decide
    have get : ∀ {i : Nat} {x : List D} {j : Nat} {d : D}, ((List.range len).map fun i => [g i])[i]? = some x → x[j]? = some d → i < len ∧ j = 0 ∧ d = g i := fun {i x j d} h1 h3 => by
      rw [List.getElem?_map] at h1
      by_cases hi : i < len
      · rw [List.getElem?_range hi] at h1
        simp only [Option.map_some, Option.some.injEq] at h1
        subst h1
        cases j with
        | zero => simp at h3; exact ⟨hi, rfl, h3.symm⟩
        | succ j => simp at h3
      · rw [List.getElem?_eq_none (by simp; omega)] at h1; cases h1
    have hcell : ∀ i, i < len → w.cell? ⟨b, o + i, none⟩ = some (f i) := fun i hi => by
      have := hc i hi
      unfold Addr.add at this
      split at this
      · rename_i e; subst e; simpa using this
      · simpa using this
    refine Rep.sl_of (sz := 1) (by simp) (fun i _ => f i) (by simp; omega) (by simp; omega) (by simp) (fun i x j d h1 h3 => ?_) (fun i x j d h1 h3 => ?_)
    · obtain ⟨hi, rfl, rfl⟩ := get h1 h3
      have := hcell i hi
      exact ⟨cell_lt this, by simpa using this⟩
    · obtain ⟨hi, rfl, rfl⟩ := get h1 h3
      exact hr i hi

section
variable {H : Type} {enc : TypeId × Value → H} {P : Program} {w : World} {spare : Nat → Bool} {held : Bool}
theorem ints_rep {t e : TypeId} {k : IntKind} {a : Option Addr} {len cap : Nat} {d : DataW H} {ps : List MemPlace} (ht : P.underlying t = some (.slice e)) (he : P.underlying e = some (.int k)) (hc : P.cellsOf e = 1)
    (h : DataW.Trod enc P w 0 spare held t (.slice a len cap) d ps) : ∃ l : List Int, (∀ n ∈ l, (Lit.int k n).wf = true) ∧ Rep (old w) w (.slice a len cap) (.sl (l.map fun n => [.int k n])) := by
  obtain ⟨fuel, hf⟩ := h
  rcases Go.ChangeShapes.open_ints ht he hc hf with ⟨hcs, _⟩ | ⟨x, l, c, zs, hcs, _, hl, hm, hz, _, hcell, hwz⟩
  · simp [Value.cells] at hcs
    obtain ⟨rfl, rfl, rfl⟩ := hcs
    exact ⟨[], by simp, .slnil (fun _ => rfl)⟩
  · simp [Value.cells] at hcs
    obtain ⟨rfl, rfl, rfl⟩ := hcs
    have hlz : len ≤ zs.length := by rw [hz]; split <;> omega
    refine ⟨(List.range len).map fun i => zs.getD i 0, ?_, ?_⟩
    · intro n hn
      obtain ⟨i, hi, rfl⟩ := List.mem_map.1 hn
      have hi := List.mem_range.1 hi
      apply hwz
      rw [List.getD_eq_getElem?_getD, List.getElem?_eq_getElem (by omega)]
      exact List.getElem_mem _
    · rw [List.map_map]
      exact rep_slice1 (fun i => .int k (zs.getD i 0)) (fun i => .int k (zs.getD i 0)) hl hm (fun i hi => hcell i (by omega)) (fun i hi => .int k _)
theorem strs_rep {t e : TypeId} {a : Option Addr} {len cap : Nat} {d : DataW H} {ps : List MemPlace} (ht : P.underlying t = some (.slice e)) (he : P.underlying e = some .string) (hc : P.cellsOf e = 1)
    (h : DataW.Trod enc P w 0 spare held t (.slice a len cap) d ps) : ∃ l : List (List UInt8), Rep (old w) w (.slice a len cap) (.sl (l.map fun s => [.str s])) := by
  obtain ⟨fuel, hf⟩ := h
  rcases Go.Deep.open_strs ht he hc hf with ⟨hcs, _⟩ | ⟨x, l, c, m, Sx, hcs, _, hl, hm, hz, _, hcell⟩
  · simp [Value.cells] at hcs
    obtain ⟨rfl, rfl, rfl⟩ := hcs
    exact ⟨[], .slnil (fun _ => rfl)⟩
  · simp [Value.cells] at hcs
    obtain ⟨rfl, rfl, rfl⟩ := hcs
    have hlz : len ≤ m := by rw [hz]; split <;> omega
    refine ⟨(List.range len).map fun i => (Sx i).data.toList, ?_⟩
    · rw [List.map_map]
      exact rep_slice1 (fun i => .string (Sx i)) (fun i => .str (Sx i).data.toList) hl hm (fun i hi => (hcell i (by omega)).1) (fun i hi => rep_string (hcell i (by omega)).2)
/-- A struct of two whole numbers that came in. -/
theorem pair_rep {κ : Kap} {t : TypeId} {f0 f1 : Field} {k0 k1 : IntKind} {cs : Array Value} {d : DataW H} {ps : List MemPlace} (ht : P.underlying t = some (.struct #[f0, f1])) (h0 : P.underlying f0.type = some (.int k0)) (h1 : P.underlying f1.type = some (.int k1))
    (hc : P.cellsOf t = 2) (c0 : P.cellsOf f0.type = 1) (c1 : P.cellsOf f1.type = 1) (o0 : f0.offset = 0) (o1 : f1.offset = 1)
    (h : DataW.Trod enc P w 0 spare held t (.agg cs) d ps) : ∃ n m : Int, (Lit.int k0 n).wf = true ∧ (Lit.int k1 m).wf = true ∧ Rep κ w (.agg cs) (.agg [.int k0 n, .int k1 m]) := by
  obtain ⟨fuel, hf⟩ := h
  obtain ⟨y0, y1, n, _, hl, g0, g1⟩ := Go.ChangeShapes.trod_struct2 ht hf
  rw [o0, c0] at g0
  rw [o1, c1] at g1
  rw [hc] at hl
  obtain ⟨a, e0, _, w0⟩ := DataW.trod_int h0 g0
  obtain ⟨b, e1, _, w1⟩ := DataW.trod_int h1 g1
  simp only [Value.cells] at hl e0 e1
  have hcs : cs = #[.int k0 a, .int k1 b] := by
    obtain ⟨l⟩ := cs
    match l, hl with
    | [u, v], _ =>
      simp at e0 e1
      rw [e0, e1]
  subst hcs
  refine ⟨a, b, w0, w1, .agg rfl fun i d hd => ?_⟩
  match i, hd with
  | 0, hd => simp at hd; subst hd; exact .int _ _
  | 1, hd => simp at hd; subst hd; exact .int _ _
end
end Go.Proofs.YtpagdhbmbnoddaaGreatDoor.Zz
/- From what a card lists of package-level variables to what the logic asks of them; the wrap that keeps both what is listed and the world's shape. -/
set_option linter.unusedVariables false
set_option linter.unusedSimpArgs false
namespace Go.Proofs.YtpagdhbmbnoddaaGreatDoor.Zz
open Go.RowKit

section
variable {P : Program} {w : World}
theorem laid_get : ∀ {laid : List (String × DataW Unit)} {ps : List MemPlace}, DataW.LaidVars P w laid ps → ∀ {i : Nat} {n : String} {d : DataW Unit}, laid[i]? = some (n, d) →
    ∃ g t cs fuel p, P.globalNamed n = some g ∧ (P.globals[g]?).map (·.type) = some t ∧ w.var? P n = some cs ∧ DataW.trod (fun _ => ()) P w 0 (fun _ => true) false fuel t cs.toList = some (d, p) ∧ ∀ x ∈ MemPlace.row ⟨g, 0, none⟩ cs.size, x ∈ ps
  | [], ps, _, i, n, d, e => by simp at e
  | (m, c) :: r, ps, h, i, n, d, e => by
    obtain ⟨g, t, cs, fuel, p, q, h1, h2, h3, h4, h5, h6⟩ := h
    cases i with
    | zero =>
      cases e
      exact ⟨g, t, cs, fuel, p, h1, h2, h3, h4, fun x hx => by rw [h6]; simp [hx]⟩
    | succ i =>
      obtain ⟨g', t', cs', fuel', p', k1, k2, k3, k4, k5⟩ := laid_get h5 (i := i) (by simpa using e)
      exact ⟨g', t', cs', fuel', p', k1, k2, k3, k4, fun x hx => by rw [h6]; simp [k5 x hx]⟩
/-- An array of whole numbers that is listed. -/
theorem laid_ints {κ : Kap} {laid : List (String × DataW Unit)} (h : laidMet P laid w) {i : Nat} {n : String} {g N : Nat} {t e : TypeId} {k : IntKind} (zs : List Int) (hm : laid[i]? = some (n, .agg (zs.map fun z => .lit (.int k z))))
    (hg : P.globalNamed n = some g) (ht : (P.globals[g]?).map (·.type) = some t) (hu : P.underlying t = some (.array N e)) (he : P.underlying e = some (.int k)) (hc : P.cellsOf t = N) (ce : P.cellsOf e = 1) (h0 : 0 < N) :
    ∃ (cs : Array Value) (ty : TypeId), w.heap[g]? = some (.cells cs ty (0, 0)) ∧ cs.size = zs.length ∧ ∀ (j : Nat) (d : D), (zs.map fun z => D.int k z)[j]? = some d → ∃ v, cs[j]? = some v ∧ Rep κ w v d := by
  obtain ⟨ps, hl, _, hcell⟩ := h
  obtain ⟨g', t', cs, fuel, p, k1, k2, k3, k4, k5⟩ := laid_get hl hm
  rw [hg] at k1
  cases k1
  rw [ht] at k2
  cases k2
  obtain ⟨xs, m, _, hx, hs, hn, hat⟩ := DataW.trod_array hu k4
  rw [ce] at hat
  have hcs : cs.size = N := by simpa [hc] using hs
  have hzx : zs.map (fun z => DataW.lit (H := Unit) (.int k z)) = xs.map (·.1) := by injection hx with h1 h2; injection h1
  have hzl : zs.length = N := by have := congrArg List.length hzx; simp at this; omega
  obtain ⟨c, ty, hh⟩ := (hcell g 0 (k5 _ (by
    simp only [MemPlace.row, List.mem_map, List.mem_range]
    exact ⟨0, by omega, rfl⟩))).1
  have hcc : c = cs := by
    simp only [World.var?, hg, Option.bind_some, hh] at k3
    exact Option.some.inj k3
  subst hcc
  refine ⟨c, ty, hh, by omega, fun j d hd => ?_⟩
  have hj : j < N := by have := (List.getElem?_eq_some_iff.1 hd).1; simp at this; omega
  have g1 := hat j hj
  have e1 : (c.toList.drop (j * 1)).take 1 = [c[j]'(by omega)] := by
    rw [Nat.mul_one, List.drop_eq_getElem_cons (by simp; omega)]
    simp
  rw [e1, List.getElem?_eq_getElem (by omega)] at g1
  obtain ⟨a, e2, e3, _⟩ := DataW.trod_int he g1
  have e4 : c[j]'(by omega) = .int k a := by simpa using e2
  have e5 : zs[j]'(by omega) = a := by
    have := congrArg (fun l : List (DataW Unit) => l[j]?) hzx
    simp only [List.getElem?_map, List.getElem?_eq_getElem (show j < zs.length by omega), List.getElem?_eq_getElem (show j < xs.length by omega), Option.map_some, Option.some.injEq] at this
    rw [e3] at this
    simpa using this
  have e6 : d = .int k a := by
    simp only [List.getElem?_map, List.getElem?_eq_getElem (show j < zs.length by omega), Option.map_some, Option.some.injEq, e5] at hd
    exact hd.symm
  refine ⟨.int k a, by rw [Array.getElem?_eq_getElem (by omega), e4], ?_⟩
  rw [e6]
  exact .int k a
end

section
variable {H : Type} {enc : TypeId × Value → H}
theorem returns_both {a : Assume} {C : Checked} {os : Os} {f : FuncId} {fn : Func} {s : ChangeSpec} {conds : List PathCond} {apart fresh handsOn again : Bool} {X : World → Array Value → Prop}
    (hX : ∀ (w w' : World) (args : Array Value), w.heap = w'.heap → X w args → X w' args)
    (own : ownKnob C.prog.godebug = none) (started : os.Started) (noInit : C.prog.inits.idxOf? f = none) (hfn : C.prog.funcs[f]? = some fn)
    (witness : ∃ (w : World) (tape : Tape) (i : Input), w.os = os ∧ (w.forCall tape i).Shaped C.prog ∧ i.vars = [] ∧ Input.okWide C.prog (w.forCall tape i) .any w.heap.size f i ∧
      ((s.pre enc C.prog fn conds apart (w.forCall tape i).memory i.args ∧ X (w.forCall tape i).memory i.args) ∧ sizedMet enc C.prog fn (OpenSpec.ofChange s) apart (w.forCall tape i).memory i.args) ∧ a.holds C.prog (lone (Frame.enter C.prog f i.args .normal) [] (w.forCall tape i)))
    (contract : ∀ (W : World) (base : Nat) (args : Array Value) (ds gs : List (DataW H)) (before : List MemPlace),
      (∀ (j : Nat) t v, fn.params[j]? = some t → args[j]? = some v → Value.okWide C.prog W .any base t v) →
      DataW.Whole enc C.prog fn.params.toList s.vars apart W args.toList ds gs before →
      conds.all (PathCond.test C.prog ⟨fn.params.toList, ds, s.plain.varTypes C.prog, gs⟩) = true → X W args → W.ShapedOpen C.prog →
      Calls C.prog f args W fun e W' => ∃ v, e = .returned v ∧ s.post enc C.prog fn apart fresh handsOn again W args v W') :
    ReturnsInHanded a C os f .any (fun w args => (s.pre enc C.prog fn conds apart w args ∧ X w args) ∧ sizedMet enc C.prog fn (OpenSpec.ofChange s) apart w args) (s.post enc C.prog fn apart fresh handsOn again) := by
  refine returnsInHanded_of_calls own started noInit witness ?_
  intro w tape i _ hsh _ hok hpre _
  obtain ⟨_, _, _, fn', hfn', _, _, _, _, hval⟩ := hok
  have e : fn' = fn := Option.some.inj (hfn'.symm.trans hfn)
  subst e
  obtain ⟨⟨⟨ds, gs, before, hw, hc⟩, hx⟩, hz⟩ := hpre
  have hw' := DataW.Whole.of_heap (w' := w.forCall tape i) (by rfl) hw
  refine (contract (w.forCall tape i) w.heap.size i.args ds gs before hval hw' hc (hX _ _ _ (by rfl) hx) hsh).mono fun e W' ⟨v, he, hp⟩ => ?_
  subst he
  exact ChangeSpec.post_blind hp
end
/-- The cells of a table of whole numbers. -/
def cellsOf : DataW Unit → List Value
  | .agg xs => xs.flatMap fun
    | .lit (.int k n) => [.int k n]
    | .agg ys => ys.flatMap fun
      | .lit (.int k n) => [.int k n]
      | _ => []
    | _ => []
  | _ => []
/-- A world in which blocks hold these cells. -/
def fillAt (h : Array Obj) : List (Nat × Array Value) → Array Obj
  | [] => h
  | (g, cs) :: r => fillAt (h.modify g fun
      | .cells _ t fz => .cells cs t fz
      | o => o) r
/-- A call of plain data leaves whatever lies there as it was. -/
theorem PCall.toA [Globs] {P : Program} {f : FuncId} {args : List D} {d : D} (hv : PCall P f args d) (h : AHeap) : ACalls P f args h fun o h' => o = .ret d ∧ h' = h := by
  refine ⟨hv.1, fun κ w vs hi hr => ?_⟩
  have sub := AHeap.emp_sub h
  refine (hv.2 κ w vs (hi.sub sub) hr).mono fun e w' ⟨o, h', κ'', a0, a2, a3, a4⟩ => ?_
  subst a0
  obtain ⟨f1, f2, _⟩ := hi.frame sub a3 a4
  have sub2 : h.sub (h'.union (h.minus .emp)) := fun id o ho => by
    obtain ⟨p, hp, _⟩ := hi.obj id o ho
    have := a4.ids id p hp rfl
    simpa [AHeap.union, AHeap.minus, this] using ho
  exact ⟨.ret d, h, κ'', ⟨rfl, rfl⟩, a2, f1.sub sub2, { f2 with own := fun b hb ho => f2.own b hb (ho.sub sub2), ids := fun id p hp hn => hn }⟩
end Go.Proofs.YtpagdhbmbnoddaaGreatDoor.Zz
