/- Contracts: numbers in bytes. -/
import Derived.Test.YthpgepillaeldaaDoorZH1
set_option linter.unnecessarySimpa false
namespace Go.Proofs.YthpgepillaeldaaDoor.Zz
set_option linter.unusedVariables false
set_option linter.unusedSimpArgs false
def p88 : Plan := ⟨⟨[], [], [], [], [], []⟩, [], [], false⟩
/-- cupel/wire.Number (2 parameters, 0 captured) -/
def s88 : Stm :=
  .seq (.ops [⟨.mov (.c (.str [])), (some 4), none, true⟩])
  (.seq (.ops [⟨.mov (.t 1), (some 7), none, true⟩,
     ⟨.minmax true (.t 7) (.c (.int .i64 0)), (some 8), none, true⟩,
     ⟨.minmax false (.t 8) (.c (.int .i64 8)), (some 9), none, true⟩,
     ⟨.makeSlice 1 1 [(.int .u8 0)] (.t 9) (.t 9), (some 10), none, false⟩,
     ⟨.mov (.t 10), (some 5), none, true⟩])
  (.seq (.seq (.ops [⟨.mov (.t 5), (some 11), none, true⟩,
      ⟨.len .sl (.t 11), (some 12), none, false⟩,
      ⟨.mov (.c (.int .i64 0)), (some 13), none, true⟩])
   (.block 0 (.loop (.seq (.ops [⟨.bin .lss (.t 13) (.t 12), (some 14), none, true⟩])
     (.seq (.cond (.t 14)
       (.skip)
       (.exit 0))
     (.seq (.block 1 (.seq (.ops [⟨.mov (.t 13), (some 15), none, true⟩,
          ⟨.mov (.t 15), (some 6), none, true⟩])
       (.ops [⟨.mov (.t 5), (some 16), none, true⟩,
         ⟨.mov (.t 6), (some 17), none, true⟩,
         ⟨.mov (.t 0), (some 18), none, true⟩,
         ⟨.conv (.intInt .u8) (.t 18), (some 19), none, true⟩,
         ⟨.mov (.t 0), (some 20), none, true⟩,
         ⟨.bin .shr (.t 20) (.c (.int .u64 8)), (some 21), none, true⟩,
         ⟨.indexAddrS 1 (.t 16) (.t 17), (some 22), none, false⟩,
         ⟨.store 1 (.t 22) (.t 19), none, none, false⟩,
         ⟨.mov (.t 21), (some 0), none, true⟩])))
     (.ops [⟨.bin .add (.t 13) (.c (.int .i64 1)), (some 23), none, true⟩,
       ⟨.mov (.t 23), (some 13), none, true⟩])))))))
  (.seq (.ops [⟨.mov (.t 5), (some 24), none, true⟩,
     ⟨.conv .bytesStr (.t 24), (some 25), none, false⟩,
     ⟨.mov (.t 25), (some 4), none, true⟩])
  (.ret))))
theorem st88 : stmOf Tryd.prog 102 p88 = some (s88, [.tmp 4], 26) := by kernel_rfl

def p48 : Plan := ⟨⟨[], [], [], [], [], []⟩, [], [], false⟩
/-- cupel/cupelref02.Number (2 parameters, 0 captured) -/
def s48 : Stm :=
  .seq (.ops [⟨.mov (.c (.str [])), (some 4), none, true⟩])
  (.seq (.ops [⟨.mov (.c (.str [])), (some 5), none, true⟩])
  (.seq (.seq (.ops [⟨.mov (.c (.int .i64 0)), (some 6), none, true⟩])
   (.block 0 (.loop (.seq (.seq (.ops [⟨.mov (.t 6), (some 7), none, true⟩,
         ⟨.mov (.t 1), (some 8), none, true⟩,
         ⟨.bin .lss (.t 7) (.t 8), (some 9), none, true⟩,
         ⟨.mov (.t 9), (some 10), none, true⟩,
         ⟨.mov (.t 6), (some 11), (some (10, true)), true⟩,
         ⟨.bin .lss (.t 11) (.c (.int .i64 8)), (some 12), (some (10, true)), true⟩,
         ⟨.pick (.t 10) (.t 12) (.c (.bool false)), (some 13), none, true⟩])
      (.cond (.t 13)
       (.skip)
       (.exit 0)))
     (.seq (.block 1 (.seq (.ops [⟨.mov (.t 5), (some 16), none, true⟩,
          ⟨.mov (.t 0), (some 17), none, true⟩,
          ⟨.bin .rem (.t 17) (.c (.int .u64 256)), (some 18), none, true⟩,
          ⟨.conv (.intInt .u8) (.t 18), (some 19), none, true⟩,
          ⟨.buildSlice 1 [(.int .u8 0)] 1 [(0, (.t 19))] false, (some 20), none, true⟩,
          ⟨.conv .bytesStr (.t 20), (some 21), none, false⟩,
          ⟨.bin .add (.t 16) (.t 21), (some 22), none, true⟩,
          ⟨.mov (.t 22), (some 5), none, true⟩])
       (.ops [⟨.mov (.t 0), (some 23), none, true⟩,
         ⟨.bin .quo (.t 23) (.c (.int .u64 256)), (some 24), none, true⟩,
         ⟨.mov (.t 24), (some 0), none, true⟩])))
     (.ops [⟨.mov (.t 6), (some 14), none, true⟩,
       ⟨.bin .add (.t 14) (.c (.int .i64 1)), (some 15), none, true⟩,
       ⟨.mov (.t 15), (some 6), none, true⟩]))))))
  (.seq (.ops [⟨.mov (.t 5), (some 25), none, true⟩,
     ⟨.mov (.t 25), (some 4), none, true⟩])
  (.ret))))
theorem st48 : stmOf Tryd.prog 26 p48 = some (s48, [.tmp 4], 26) := by kernel_rfl

/-- A number's lowest bytes, the lowest first. -/
def leB : Nat → Nat → List UInt8
  | _, 0 => []
  | n, b + 1 => UInt8.ofNat n :: leB (n / 256) b
def bN (m : Int) : Nat := (min (max m 0) 8).toNat
theorem len_leB (n b : Nat) : (leB n b).length = b := by
  induction b generalizing n with
  | zero => rfl
  | succ b ih => simp [leB, ih]
theorem leB_snoc (n b : Nat) : leB n (b + 1) = leB n b ++ [UInt8.ofNat (n / 256 ^ b)] := by
  induction b generalizing n with
  | zero => simp [leB]
  | succ b ih =>
    rw [leB, ih, ← List.cons_append]
    simp only [leB]
    rw [Nat.div_div_eq_div_mul, Nat.pow_succ, Nat.mul_comm]

theorem bN_eq (m : Int) : (if 8 < if m < 0 then 0 else m then 8 else if m < 0 then 0 else m) = (bN m : Int) := by
  unfold bN
  split <;> split <;> omega
theorem bN_le (m : Int) : bN m ≤ 8 := by unfold bN; omega

theorem number_c (n : Nat) (m : Int) (hn : n < 2 ^ 64) : PCall Tryd.prog 102 [.int .u64 n, .int .i64 m] (.str (leB n (bN m))) := by
  refine PCall.run (Tab.zero_ok _) st88 (by simp) fun E => ?_
  simp only [s88, zz, zzO, zzF, zzD, zzM, cond_true, cond_false, ↓reduceIte, Nat.reduceEqDiff, Nat.reduceBEq, Int.reduceLT, Int.reduceLE, Int.reduceToNat, Int.reduceEq, Int.reduceAdd, Int.reduceSub, Int.reduceMul, Int.reduceNeg, Nat.reduceMul, Nat.reduceSub, Nat.reduceLeDiff, Nat.reduceLT, Int.reduceGT, Int.reduceGE, Int.reduceBEq, Int.reduceBNe, reduceCtorEq, Nat.reduceAdd]
  have hb := bN_le m
  rw [bN_eq]
  refine ⟨by omega, by omega, ?_⟩
  intro id hl
  simp only [Int.toNat_natCast] at hl ⊢
  have hlen : ∀ i, (encB (leB n i)).length = i := fun i => by simp [encB, len_leB]
  refine run_loop (X := Nat) (fun i => [(0, .int .u64 (n / 256 ^ i : Nat)), (5, .row id (bN m + 2) 0 (bN m)), (12, .int .i64 (bN m)), (13, .int .i64 i)])
    (fun i => AHeap.emp.set id (.row 1 (bN m + 2) (encB (leB n i) ++ List.replicate (bN m - i) [.int .u8 0]) false)) (fun i => bN m - i) (fun i => i ≤ bN m) 0 (Nat.zero_le _) ?_ ?_ ?_
  · simp only [zz, zzO, zzF, zzD, zzM, cond_true, cond_false, ↓reduceIte, Nat.reduceEqDiff, Nat.reduceBEq, Int.reduceLT, Int.reduceLE, Int.reduceToNat, Int.reduceEq, Int.reduceAdd, Int.reduceSub, Int.reduceMul, Int.reduceNeg, Nat.reduceMul, Nat.reduceSub, Nat.reduceLeDiff, Nat.reduceLT, Int.reduceGT, Int.reduceGE, Int.reduceBEq, Int.reduceBNe, reduceCtorEq, Nat.reduceAdd]
    simp
  · exact AHeap.sub_of_eq (by simp [leB, encB])
  · intro i Q hi hQ
    simp only [zz, zzO, zzF, zzD, zzM, cond_true, cond_false, ↓reduceIte, Nat.reduceEqDiff, Nat.reduceBEq, Int.reduceLT, Int.reduceLE, Int.reduceToNat, Int.reduceEq, Int.reduceAdd, Int.reduceSub, Int.reduceMul, Int.reduceNeg, Nat.reduceMul, Nat.reduceSub, Nat.reduceLeDiff, Nat.reduceLT, Int.reduceGT, Int.reduceGE, Int.reduceBEq, Int.reduceBNe, reduceCtorEq, Nat.reduceAdd]
    refine ⟨fun h1 => ⟨by omega, ?_⟩, fun h1 => ?_⟩
    · have hget : (encB (leB n i) ++ List.replicate (bN m - i) [D.int .u8 0])[i]? = some [D.int .u8 0] := by
        rw [List.getElem?_append_right (by rw [hlen]; omega), hlen, Nat.sub_self, List.getElem?_replicate]
        rw [if_pos (by omega)]
      simp only [hget, zz, zzO, zzF, zzD, zzM, cond_true, cond_false, ↓reduceIte, Nat.reduceEqDiff, Nat.reduceBEq, Int.reduceLT, Int.reduceLE, Int.reduceToNat, Int.reduceEq, Int.reduceAdd, Int.reduceSub, Int.reduceMul, Int.reduceNeg, Nat.reduceMul, Nat.reduceSub, Nat.reduceLeDiff, Nat.reduceLT, Int.reduceGT, Int.reduceGE, Int.reduceBEq, Int.reduceBNe, reduceCtorEq, Nat.reduceAdd]
      refine hQ (i + 1) _ _ (by omega) ?_ ?_ (by omega)
      · simp only [zz, zzO, zzF, zzD, zzM, cond_true, cond_false, ↓reduceIte, Nat.reduceEqDiff, Nat.reduceBEq, Int.reduceLT, Int.reduceLE, Int.reduceToNat, Int.reduceEq, Int.reduceAdd, Int.reduceSub, Int.reduceMul, Int.reduceNeg, Nat.reduceMul, Nat.reduceSub, Nat.reduceLeDiff, Nat.reduceLT, Int.reduceGT, Int.reduceGE, Int.reduceBEq, Int.reduceBNe, reduceCtorEq, Nat.reduceAdd]
        refine ⟨?_, wrap_succ (by omega)⟩
        have : min 8 IntKind.u64.bits = 8 := rfl
        rw [this, Nat.pow_succ, ← Nat.div_div_eq_div_mul, Int.fdiv_eq_ediv_of_nonneg _ (by omega)]
        simp
      · refine AHeap.sub_of_eq ?_
        congr 2
        rw [List.set_append_right _ _ (by rw [hlen]; exact Nat.le_refl _), hlen, Nat.sub_self, leB_snoc, ← enc_append, List.append_assoc]
        obtain ⟨k, hk⟩ : ∃ k, bN m - i = k + 1 := ⟨bN m - i - 1, by omega⟩
        have hk2 : bN m - (i + 1) = k := by omega
        rw [hk, hk2, List.replicate_succ, List.set_cons_zero]
        simp [encB, wrap_u8]
    · have : i = bN m := by omega
      subst this
      have hl2 := len_leB n (bN m)
      simp only [Nat.sub_self, List.replicate_zero, zz, zzO, zzF, zzD, zzM, cond_true, cond_false, ↓reduceIte, Nat.reduceEqDiff, Nat.reduceBEq, Int.reduceLT, Int.reduceLE, Int.reduceToNat, Int.reduceEq, Int.reduceAdd, Int.reduceSub, Int.reduceMul, Int.reduceNeg, Nat.reduceMul, Nat.reduceSub, Nat.reduceLeDiff, Nat.reduceLT, Int.reduceGT, Int.reduceGE, Int.reduceBEq, Int.reduceBNe, reduceCtorEq, Nat.reduceAdd]
      exact ⟨by omega, .inl (List.take_of_length_le (by omega))⟩
theorem refNumber_c (n : Nat) (m : Int) (hn : n < 2 ^ 64) : PCall Tryd.prog 26 [.int .u64 n, .int .i64 m] (.str (leB n (bN m))) := by
  refine PCall.run (Tab.zero_ok _) st48 (by simp) fun E => ?_
  simp only [s48, zz, zzO, zzF, zzD, zzM, cond_true, cond_false, ↓reduceIte, Nat.reduceEqDiff, Nat.reduceBEq, Int.reduceLT, Int.reduceLE, Int.reduceToNat, Int.reduceEq, Int.reduceAdd, Int.reduceSub, Int.reduceMul, Int.reduceNeg, Nat.reduceMul, Nat.reduceSub, Nat.reduceLeDiff, Nat.reduceLT, Int.reduceGT, Int.reduceGE, Int.reduceBEq, Int.reduceBNe, reduceCtorEq, Nat.reduceAdd]
  have hb := bN_le m
  refine run_loop (X := Nat) (fun i => [(0, .int .u64 (n / 256 ^ i : Nat)), (1, .int .i64 m), (5, .str (leB n i)), (6, .int .i64 i)])
    (fun i => AHeap.emp) (fun i => bN m - i) (fun i => i ≤ bN m) 0 (Nat.zero_le _) ?_ (AHeap.sub_refl _) ?_
  · simp only [zz, zzO, zzF, zzD, zzM, cond_true, cond_false, ↓reduceIte, Nat.reduceEqDiff, Nat.reduceBEq, Int.reduceLT, Int.reduceLE, Int.reduceToNat, Int.reduceEq, Int.reduceAdd, Int.reduceSub, Int.reduceMul, Int.reduceNeg, Nat.reduceMul, Nat.reduceSub, Nat.reduceLeDiff, Nat.reduceLT, Int.reduceGT, Int.reduceGE, Int.reduceBEq, Int.reduceBNe, reduceCtorEq, Nat.reduceAdd]
    simp [leB]
  · intro i Q hi hQ
    have hlen := len_leB n i
    by_cases h1 : i < bN m
    · have g1 : ((i : Int) < m) = True := by unfold bN at h1; simp; omega
      have g2 : ((i : Int) < 8) = True := by simp; omega
      have g3 : ((256 : Int) = 0) = False := by simp
      simp only [g1, g2, g3, decide_true, hlen, zz, zzO, zzF, zzD, zzM, cond_true, cond_false, ↓reduceIte, Nat.reduceEqDiff, Nat.reduceBEq, Int.reduceLT, Int.reduceLE, Int.reduceToNat, Int.reduceEq, Int.reduceAdd, Int.reduceSub, Int.reduceMul, Int.reduceNeg, Nat.reduceMul, Nat.reduceSub, Nat.reduceLeDiff, Nat.reduceLT, Int.reduceGT, Int.reduceGE, Int.reduceBEq, Int.reduceBNe, reduceCtorEq, Nat.reduceAdd]
      refine ⟨by omega, ?_⟩
      refine hQ (i + 1) _ _ (by omega) ?_ (AHeap.sub_refl _) (by omega)
      simp only [zz, zzO, zzF, zzD, zzM, cond_true, cond_false, ↓reduceIte, Nat.reduceEqDiff, Nat.reduceBEq, Int.reduceLT, Int.reduceLE, Int.reduceToNat, Int.reduceEq, Int.reduceAdd, Int.reduceSub, Int.reduceMul, Int.reduceNeg, Nat.reduceMul, Nat.reduceSub, Nat.reduceLeDiff, Nat.reduceLT, Int.reduceGT, Int.reduceGE, Int.reduceBEq, Int.reduceBNe, reduceCtorEq, Nat.reduceAdd]
      have hd : n / 256 ^ (i + 1) = n / 256 ^ i / 256 := by rw [Nat.pow_succ, Nat.div_div_eq_div_mul]
      have hle : n / 256 ^ i ≤ n := Nat.div_le_self _ _
      rw [hd, leB_snoc]
      generalize n / 256 ^ i = q at hle ⊢
      have t1 : ((q : Int)).tdiv 256 = ((q / 256 : Nat) : Int) := by rw [Int.tdiv_eq_ediv_of_nonneg (by omega)]; omega
      have t2 : ((q : Int)).tmod 256 = ((q % 256 : Nat) : Int) := by rw [Int.tmod_eq_emod_of_nonneg (by omega)]; omega
      rw [t1, t2]
      refine ⟨wrap_u64 (by omega) (by omega), ?_, wrap_succ (by omega)⟩
      congr 2
      rw [wrap_u8]
      apply UInt8.toNat_inj.1
      simp
      omega
    · have : i = bN m := by omega
      subst this
      by_cases g1 : ((bN m : Int) < m)
      · have g2 : ((bN m : Int) < 8) = False := by unfold bN at g1 ⊢; simp; omega
        simp only [g1, g2, decide_true, decide_false, zz, zzO, zzF, zzD, zzM, cond_true, cond_false, ↓reduceIte, Nat.reduceEqDiff, Nat.reduceBEq, Int.reduceLT, Int.reduceLE, Int.reduceToNat, Int.reduceEq, Int.reduceAdd, Int.reduceSub, Int.reduceMul, Int.reduceNeg, Nat.reduceMul, Nat.reduceSub, Nat.reduceLeDiff, Nat.reduceLT, Int.reduceGT, Int.reduceGE, Int.reduceBEq, Int.reduceBNe, reduceCtorEq, Nat.reduceAdd]
      · simp only [g1, decide_false, zz, zzO, zzF, zzD, zzM, cond_true, cond_false, ↓reduceIte, Nat.reduceEqDiff, Nat.reduceBEq, Int.reduceLT, Int.reduceLE, Int.reduceToNat, Int.reduceEq, Int.reduceAdd, Int.reduceSub, Int.reduceMul, Int.reduceNeg, Nat.reduceMul, Nat.reduceSub, Nat.reduceLeDiff, Nat.reduceLT, Int.reduceGT, Int.reduceGE, Int.reduceBEq, Int.reduceBNe, reduceCtorEq, Nat.reduceAdd]
/-- A number out of its bytes, the lowest first. -/
def unLe : List UInt8 → Nat
  | [] => 0
  | b :: s => b.toNat + 256 * unLe s

theorem unLe_lt : ∀ s : List UInt8, unLe s < 256 ^ s.length
  | [] => by simp [unLe]
  | b :: s => by
    have := unLe_lt s
    have hb := b.toNat_lt
    simp only [unLe, List.length_cons, Nat.pow_succ]
    omega
theorem unLe_snoc (s : List UInt8) (b : UInt8) : unLe (s ++ [b]) = unLe s + b.toNat * 256 ^ s.length := by
  induction s with
  | nil => simp [unLe]
  | cons c s ih =>
    simp only [List.cons_append, unLe, ih, List.length_cons, Nat.pow_succ]
    rw [Nat.mul_add, Nat.mul_left_comm 256 b.toNat, Nat.mul_comm 256 (256 ^ s.length), Nat.add_assoc]
theorem unLe_take (s : List UInt8) (i : Nat) (hi : i < s.length) : unLe (s.take (i + 1)) = unLe (s.take i) + (s.getD i 0).toNat * 256 ^ i := by
  rw [List.take_succ_eq_append_getElem hi, unLe_snoc]
  simp [List.getD, hi, Nat.min_eq_left (Nat.le_of_lt hi)]

end Go.Proofs.YthpgepillaeldaaDoor.Zz
