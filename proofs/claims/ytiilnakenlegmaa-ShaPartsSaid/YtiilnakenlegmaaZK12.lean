/- Contracts: the document's digest. -/
import Derived.Test.YtiilnakenlegmaaZK11
namespace Go.Proofs.Ytiilnakenlegmaa.Zz
set_option linter.unusedVariables false
set_option linter.unusedSimpArgs false
set_option maxRecDepth 20000
def p13 : Plan := ⟨⟨[(14, 0)], [], [], [], [], []⟩, [(4, [0, 1, 2, 3, 4, 5, 6, 7, 8, 9, 10, 11, 12, 13, 14]), (12, [0, 1, 2, 3, 4, 5, 6, 7, 8, 9, 10, 11, 12, 13, 14, 15, 16, 17])]⟩
/-- cupel/cupelref01.Sum (1 parameters, 0 captured) -/
def s13 : Stm :=
  .seq (.ops [⟨.mov (.c (.str [])), (some 2), none, true⟩])
  (.seq (.ops [⟨.mov (.t 0), (some 8), none, true⟩,
     ⟨.bin .add (.t 8) (.c (.str [6])), (some 9), none, true⟩,
     ⟨.mov (.t 9), (some 0), none, true⟩])
  (.seq (.block 0 (.loop (.seq (.seq (.ops [⟨.mov (.t 0), (some 10), none, true⟩,
         ⟨.len .str (.t 10), (some 11), none, false⟩,
         ⟨.bin .rem (.t 11) (.c (.int .i64 136)), (some 12), none, true⟩,
         ⟨.bin .neq (.t 12) (.c (.int .i64 0)), (some 13), none, true⟩])
      (.cond (.t 13)
       (.skip)
       (.exit 0)))
     (.block 1 (.ops [⟨.mov (.t 0), (some 14), none, true⟩,
        ⟨.bin .add (.t 14) (.c (.str [0])), (some 15), none, true⟩,
        ⟨.mov (.t 15), (some 0), none, true⟩])))))
  (.seq (.ops [⟨.mov (.t 0), (some 16), none, true⟩,
     ⟨.mov (.t 0), (some 17), none, true⟩,
     ⟨.len0 .str (.t 17), (some 18), none, true⟩,
     ⟨.bin .sub (.t 18) (.c (.int .i64 1)), (some 19), none, true⟩,
     ⟨.slice .str (.t 16) none (some (.t 19)) none, (some 20), none, true⟩,
     ⟨.mov (.t 0), (some 21), none, true⟩,
     ⟨.mov (.t 0), (some 22), none, true⟩,
     ⟨.len0 .str (.t 22), (some 23), none, true⟩,
     ⟨.bin .sub (.t 23) (.c (.int .i64 1)), (some 24), none, true⟩,
     ⟨.indexS (.t 21) (.t 24), (some 25), none, true⟩,
     ⟨.bin .add (.t 25) (.c (.int .u8 128)), (some 26), none, true⟩,
     ⟨.buildSlice 1 [(.int .u8 0)] 1 [(0, (.t 26))] false, (some 27), none, true⟩,
     ⟨.conv .bytesStr (.t 27), (some 28), none, false⟩,
     ⟨.bin .add (.t 20) (.t 28), (some 29), none, true⟩,
     ⟨.mov (.t 29), (some 0), none, true⟩])
  (.seq (.ops [⟨.build [(.int .u64 0), (.int .u64 0), (.int .u64 0), (.int .u64 0), (.int .u64 0), (.int .u64 0), (.int .u64 0), (.int .u64 0), (.int .u64 0), (.int .u64 0), (.int .u64 0), (.int .u64 0), (.int .u64 0), (.int .u64 0), (.int .u64 0), (.int .u64 0), (.int .u64 0), (.int .u64 0), (.int .u64 0), (.int .u64 0), (.int .u64 0), (.int .u64 0), (.int .u64 0), (.int .u64 0), (.int .u64 0)] [], (some 30), none, true⟩,
     ⟨.alloc [(.int .u64 0), (.int .u64 0), (.int .u64 0), (.int .u64 0), (.int .u64 0), (.int .u64 0), (.int .u64 0), (.int .u64 0), (.int .u64 0), (.int .u64 0), (.int .u64 0), (.int .u64 0), (.int .u64 0), (.int .u64 0), (.int .u64 0), (.int .u64 0), (.int .u64 0), (.int .u64 0), (.int .u64 0), (.int .u64 0), (.int .u64 0), (.int .u64 0), (.int .u64 0), (.int .u64 0), (.int .u64 0)], (some 3), none, false⟩,
     ⟨.store 25 (.t 3) (.t 30), none, none, false⟩])
  (.seq (.seq (.ops [⟨.mov (.c (.int .i64 0)), (some 4), none, true⟩])
   (.block 2 (.loop (.seq (.seq (.ops [⟨.mov (.t 4), (some 31), none, true⟩,
         ⟨.mov (.t 0), (some 32), none, true⟩,
         ⟨.len .str (.t 32), (some 33), none, false⟩,
         ⟨.bin .lss (.t 31) (.t 33), (some 34), none, true⟩])
      (.cond (.t 34)
       (.skip)
       (.exit 2)))
     (.seq (.block 3 (.seq (.seq (.ops [⟨.mov (.c (.int .i64 0)), (some 5), none, true⟩])
        (.block 4 (.loop (.seq (.seq (.ops [⟨.mov (.t 5), (some 37), none, true⟩,
              ⟨.bin .lss (.t 37) (.c (.int .i64 136)), (some 38), none, true⟩])
           (.cond (.t 38)
            (.skip)
            (.exit 4)))
          (.seq (.block 5 (.ops [⟨.mov (.t 5), (some 41), none, true⟩,
              ⟨.bin .quo (.t 41) (.c (.int .i64 8)), (some 42), none, true⟩,
              ⟨.indexAddrA 25 1 (.t 3) (.t 42), (some 43), none, true⟩,
              ⟨.load none (.t 43), (some 44), none, false⟩,
              ⟨.mov (.t 0), (some 45), none, true⟩,
              ⟨.mov (.t 4), (some 46), none, true⟩,
              ⟨.mov (.t 5), (some 47), none, true⟩,
              ⟨.bin .add (.t 46) (.t 47), (some 48), none, true⟩,
              ⟨.indexS (.t 45) (.t 48), (some 49), none, true⟩,
              ⟨.conv (.intInt .u64) (.t 49), (some 50), none, true⟩,
              ⟨.mov (.t 5), (some 51), none, true⟩,
              ⟨.bin .rem (.t 51) (.c (.int .i64 8)), (some 52), none, true⟩,
              ⟨.bin .mul (.t 52) (.c (.int .i64 8)), (some 53), none, true⟩,
              ⟨.conv (.intInt .u64) (.t 53), (some 54), none, true⟩,
              ⟨.bin .shl (.t 50) (.t 54), (some 55), none, true⟩,
              ⟨.bin .xor (.t 44) (.t 55), (some 56), none, true⟩,
              ⟨.indexAddrA 25 1 (.t 3) (.t 42), (some 57), none, true⟩,
              ⟨.store 1 (.t 57) (.t 56), none, none, false⟩]))
          (.ops [⟨.mov (.t 5), (some 39), none, true⟩,
            ⟨.bin .add (.t 39) (.c (.int .i64 1)), (some 40), none, true⟩,
            ⟨.mov (.t 40), (some 5), none, true⟩]))))))
       (.ops [⟨.load (some 25) (.t 3), (some 58), none, false⟩,
         ⟨.qcall (.f 10) [(.t 58)], (some 59), none, false⟩,
         ⟨.store 25 (.t 3) (.t 59), none, none, false⟩])))
     (.ops [⟨.mov (.t 4), (some 35), none, true⟩,
       ⟨.bin .add (.t 35) (.c (.int .i64 136)), (some 36), none, true⟩,
       ⟨.mov (.t 36), (some 4), none, true⟩]))))))
  (.seq (.ops [⟨.buildSlice 1 [(.int .u8 0)] 0 [] true, (some 60), none, false⟩,
     ⟨.mov (.t 60), (some 6), none, true⟩])
  (.seq (.seq (.ops [⟨.mov (.c (.int .i64 0)), (some 7), none, true⟩])
   (.block 6 (.loop (.seq (.seq (.ops [⟨.mov (.t 7), (some 61), none, true⟩,
         ⟨.bin .lss (.t 61) (.c (.int .i64 32)), (some 62), none, true⟩])
      (.cond (.t 62)
       (.skip)
       (.exit 6)))
     (.seq (.block 7 (.ops [⟨.mov (.t 6), (some 65), none, true⟩,
         ⟨.mov (.t 7), (some 66), none, true⟩,
         ⟨.bin .quo (.t 66) (.c (.int .i64 8)), (some 67), none, true⟩,
         ⟨.indexAddrA 25 1 (.t 3) (.t 67), (some 68), none, true⟩,
         ⟨.load none (.t 68), (some 69), none, false⟩,
         ⟨.mov (.t 7), (some 70), none, true⟩,
         ⟨.bin .rem (.t 70) (.c (.int .i64 8)), (some 71), none, true⟩,
         ⟨.bin .mul (.t 71) (.c (.int .i64 8)), (some 72), none, true⟩,
         ⟨.conv (.intInt .u64) (.t 72), (some 73), none, true⟩,
         ⟨.bin .shr (.t 69) (.t 73), (some 74), none, true⟩,
         ⟨.conv (.intInt .u8) (.t 74), (some 75), none, true⟩,
         ⟨.buildSlice 1 [(.int .u8 0)] 1 [(0, (.t 75))] false, (some 76), none, true⟩,
         ⟨.append 1 1 false (.t 65) (.t 76), (some 77), none, false⟩,
         ⟨.mov (.t 77), (some 6), none, true⟩]))
     (.ops [⟨.mov (.t 7), (some 63), none, true⟩,
       ⟨.bin .add (.t 63) (.c (.int .i64 1)), (some 64), none, true⟩,
       ⟨.mov (.t 64), (some 7), none, true⟩]))))))
  (.seq (.ops [⟨.mov (.t 6), (some 78), none, true⟩,
     ⟨.conv .bytesStr (.t 78), (some 79), none, false⟩,
     ⟨.mov (.t 79), (some 2), none, true⟩])
  (.ret)))))))))
theorem st13 : stmOf Try.prog 13 p13 = some (s13, [.tmp 2], 80) := by kernel_rfl

def q10 : List D → Option D
  | [.agg s'] => match decW s' with
    | some s => if s.length = 25 then some (.agg (encW (turnF s 24))) else none
    | _ => none
  | _ => none
theorem q10_ok (args : List D) (d : D) (h : q10 args = some d) : PCall Try.prog 10 args d := by
  unfold q10 at h
  split at h
  · split at h
    · rename_i e0
      cases decW_some e0
      split at h
      · cases h; exact (by rename_i hc; rw [turn_eq _ hc]; exact refTurn_c _ hc)
      · cases h
    · cases h
  · cases h

theorem q10_eq {s : List W64} (hs : s.length = 25) : q10 [.agg (encW s)] = some (.agg (encW (turnF s 24))) := by
  simp only [q10, decW_enc]
  rw [if_pos hs]
def tb10 : Tab := Tab.zero.addQ 10 q10
theorem tb10_q (g : FuncId) (args : List D) : tb10.q g args = if g = 10 then q10 args else Tab.zero.q g args := rfl
theorem tb10_a : tb10.a = Tab.zero.a := rfl
theorem tb10_c : tb10.c = Tab.zero.c := rfl
theorem tb10_ok : tb10.ok Try.prog := Tab.addQ_ok (Tab.zero_ok _) q10_ok
theorem tb10_e : type_of% (And.intro @tb10_q (And.intro @tb10_a @tb10_c)) := (And.intro @tb10_q (And.intro @tb10_a @tb10_c))

theorem padP_succ (s : List UInt8) (k : Nat) : padP s k ++ [0] = padP s (k + 1) := by simp [padP, List.replicate_succ']
def outK (a : List W64) (k : Nat) : List UInt8 := (List.range k).map (outB a)
theorem outK_succ (a : List W64) (k : Nat) : outK a (k + 1) = outK a k ++ [outB a k] := by unfold outK; rw [List.range_succ, List.map_append]; rfl
theorem len_outK (a : List W64) (k : Nat) : (outK a k).length = k := by simp [outK]
theorem b128 (x : UInt8) : UInt8.ofNat (IntKind.u8.wrap ((x.toNat : Int) + 128)).toNat = x + 128 := by
  rw [wrap_u8]
  apply UInt8.toNat_inj.mp
  have := x.toNat_lt
  rw [UInt8.toNat_add, UInt8.toNat_ofNat']
  have : (128 : UInt8).toNat = 128 := rfl
  omega
set_option maxHeartbeats 4000000 in
theorem refSum_c (s : List UInt8) (hs : s.length ≤ 9000000000000000000) : PCall Try.prog 13 [.str s] (.str (shaB s)) := by
  refine PCall.run tb10_ok st13 (by simp) fun E => ?_
  have l0 : (s.length + 1 ≤ 9223372036854775807) = True := eq_true (by omega)
  have p0 : s ++ [6] = padP s 0 := rfl
  simp (config := {maxSteps := 1000000}) only [s13, l0, p0, tb10_e, Int.natCast_nonneg, Nat.le_refl, Int.le_refl, List.take_succ_cons, List.take_zero, decide_true, decide_false, Bool.and_false, Bool.false_and, zz, zzN, zzF, fltEv, isArithF, ↓reduceIte, Nat.reduceEqDiff, Nat.reduceBEq, Int.reduceLT, Int.reduceLE, Int.reduceToNat, Int.reduceEq, Int.reduceAdd, Int.reduceSub, Int.reduceMul, Int.reduceNeg, Nat.reduceMul, Nat.reduceSub, Nat.reduceLeDiff, Nat.reduceLT, Int.reduceGT, Int.reduceBEq, Int.reduceBNe, reduceCtorEq, Nat.reduceAdd, Ins.map, Fr.ev, argFr, argE, binEv, intEv, shEv, strEv, unEv, Fr.mark, evRes, tup, lenD, lookupD, loadD, partD, storeD, cellsD, cellOk, setAt, objNe, objSame, eqEv, readEv, buildD, buildRows, rowsOf, elemsOf]
  refine run_loop (X := Nat) (fun k => [(0, .str (padP s k))]) (fun k => .emp) (fun k => padL s.length - k) (fun k => k ≤ padL s.length) 0 (by simp) ?_ (AHeap.sub_refl _) ?_
  · simp only [Int.natCast_nonneg, Nat.le_refl, Int.le_refl, List.take_succ_cons, List.take_zero, decide_true, decide_false, Bool.and_false, Bool.false_and, zz, zzN, zzF, fltEv, isArithF, ↓reduceIte, Nat.reduceEqDiff, Nat.reduceBEq, Int.reduceLT, Int.reduceLE, Int.reduceToNat, Int.reduceEq, Int.reduceAdd, Int.reduceSub, Int.reduceMul, Int.reduceNeg, Nat.reduceMul, Nat.reduceSub, Nat.reduceLeDiff, Nat.reduceLT, Int.reduceGT, Int.reduceBEq, Int.reduceBNe, reduceCtorEq, Nat.reduceAdd, Ins.map, Fr.ev, argFr, argE, binEv, intEv, shEv, strEv, unEv, Fr.mark, evRes, tup, lenD, lookupD, loadD, partD, storeD, cellsD, cellOk, setAt, objNe, objSame, eqEv, readEv, buildD, buildRows, rowsOf, elemsOf]
  intro k Q hk hQ
  have hp : padL s.length = 135 - s.length % 136 := rfl
  have lP := len_padP s k
  have tm : Int.tmod ((s.length + 1 + k : Nat) : Int) 136 = (((s.length + 1 + k) % 136 : Nat) : Int) := tmod_nat _ 136
  by_cases c : k < padL s.length
  · have g1 : ((((s.length + 1 + k) % 136 : Nat) : Int) != 0) = true := by
      have : (s.length + 1 + k) % 136 ≠ 0 := by omega
      simp only [bne_iff_ne, ne_eq]
      omega
    have l1 : (s.length + 1 + k + 1 ≤ 9223372036854775807) = True := eq_true (by omega)
    have f := padP_succ s k
    generalize padP s k = P at *
    simp (config := {maxSteps := 1000000}) only [tm, lP, g1, l1, f, tb10_e, Int.natCast_nonneg, Nat.le_refl, Int.le_refl, List.take_succ_cons, List.take_zero, decide_true, decide_false, Bool.and_false, Bool.false_and, zz, zzN, zzF, fltEv, isArithF, ↓reduceIte, Nat.reduceEqDiff, Nat.reduceBEq, Int.reduceLT, Int.reduceLE, Int.reduceToNat, Int.reduceEq, Int.reduceAdd, Int.reduceSub, Int.reduceMul, Int.reduceNeg, Nat.reduceMul, Nat.reduceSub, Nat.reduceLeDiff, Nat.reduceLT, Int.reduceGT, Int.reduceBEq, Int.reduceBNe, reduceCtorEq, Nat.reduceAdd, Ins.map, Fr.ev, argFr, argE, binEv, intEv, shEv, strEv, unEv, Fr.mark, evRes, tup, lenD, lookupD, loadD, partD, storeD, cellsD, cellOk, setAt, objNe, objSame, eqEv, readEv, buildD, buildRows, rowsOf, elemsOf]
    intro _
    exact hQ (k + 1) _ _ (by omega) (by simp only [Int.natCast_nonneg, Nat.le_refl, Int.le_refl, List.take_succ_cons, List.take_zero, decide_true, decide_false, Bool.and_false, Bool.false_and, zz, zzN, zzF, fltEv, isArithF, ↓reduceIte, Nat.reduceEqDiff, Nat.reduceBEq, Int.reduceLT, Int.reduceLE, Int.reduceToNat, Int.reduceEq, Int.reduceAdd, Int.reduceSub, Int.reduceMul, Int.reduceNeg, Nat.reduceMul, Nat.reduceSub, Nat.reduceLeDiff, Nat.reduceLT, Int.reduceGT, Int.reduceBEq, Int.reduceBNe, reduceCtorEq, Nat.reduceAdd, Ins.map, Fr.ev, argFr, argE, binEv, intEv, shEv, strEv, unEv, Fr.mark, evRes, tup, lenD, lookupD, loadD, partD, storeD, cellsD, cellOk, setAt, objNe, objSame, eqEv, readEv, buildD, buildRows, rowsOf, elemsOf]) (AHeap.sub_refl _) (by omega)
  · have hc : k = padL s.length := by omega
    have g1 : ((((s.length + 1 + k) % 136 : Nat) : Int) != 0) = false := by
      have : (s.length + 1 + k) % 136 = 0 := by omega
      rw [this]; rfl
    have fM : padM s = (padP s k).take ((padP s k).length - 1) ++ [(padP s k).getD ((padP s k).length - 1) 0 + 128] := by rw [hc]; rfl
    have lM := len_padM s
    have mM := padM_mod s
    have law := ref_law s
    clear hQ
    generalize padP s k = P at *
    have e1 : P.length - 1 = s.length + k := by omega
    rw [e1] at fM
    have w1 : IntKind.i64.wrap (((s.length + 1 + k : Nat) : Int) - 1) = ((s.length + k : Nat) : Int) := by rw [wrap_i64 (by omega) (by omega)]; omega
    have l1 : ((List.take (s.length + k) P).length ≤ 9223372036854775806) = True := eq_true (by rw [List.length_take]; omega)
    generalize padM s = M at *
    simp (config := {maxSteps := 1000000}) only [tm, lP, g1, w1, l1, b128, ← fM, tb10_e, Int.natCast_nonneg, Nat.le_refl, Int.le_refl, List.take_succ_cons, List.take_zero, decide_true, decide_false, Bool.and_false, Bool.false_and, zz, zzN, zzF, fltEv, isArithF, ↓reduceIte, Nat.reduceEqDiff, Nat.reduceBEq, Int.reduceLT, Int.reduceLE, Int.reduceToNat, Int.reduceEq, Int.reduceAdd, Int.reduceSub, Int.reduceMul, Int.reduceNeg, Nat.reduceMul, Nat.reduceSub, Nat.reduceLeDiff, Nat.reduceLT, Int.reduceGT, Int.reduceBEq, Int.reduceBNe, reduceCtorEq, Nat.reduceAdd, Ins.map, Fr.ev, argFr, argE, binEv, intEv, shEv, strEv, unEv, Fr.mark, evRes, tup, lenD, lookupD, loadD, partD, storeD, cellsD, cellOk, setAt, objNe, objSame, eqEv, readEv, buildD, buildRows, rowsOf, elemsOf]
    intro _
    refine ⟨by omega, by omega, ?_⟩
    intro e
    generalize hN : M.length / 136 = N at *
    refine run_loop (X := Nat) (fun q => [(0, .str M), (3, .ptr e 1 0), (4, .int .i64 (136 * q : Nat))]) (fun q => AHeap.emp.set e (.cells (encW (blkF M q)))) (fun q => N - q) (fun q => q ≤ N) 0 (by simp) ?_ ?_ ?_
    · simp only [Nat.mul_zero, Int.natCast_nonneg, Nat.le_refl, Int.le_refl, List.take_succ_cons, List.take_zero, decide_true, decide_false, Bool.and_false, Bool.false_and, zz, zzN, zzF, fltEv, isArithF, ↓reduceIte, Nat.reduceEqDiff, Nat.reduceBEq, Int.reduceLT, Int.reduceLE, Int.reduceToNat, Int.reduceEq, Int.reduceAdd, Int.reduceSub, Int.reduceMul, Int.reduceNeg, Nat.reduceMul, Nat.reduceSub, Nat.reduceLeDiff, Nat.reduceLT, Int.reduceGT, Int.reduceBEq, Int.reduceBNe, reduceCtorEq, Nat.reduceAdd, Ins.map, Fr.ev, argFr, argE, binEv, intEv, shEv, strEv, unEv, Fr.mark, evRes, tup, lenD, lookupD, loadD, partD, storeD, cellsD, cellOk, setAt, objNe, objSame, eqEv, readEv, buildD, buildRows, rowsOf, elemsOf]
    · rw [blkF_zero]; exact AHeap.sub_refl _
    intro q Q hq hQ
    have lA := len_blkF M q
    by_cases c2 : q < N
    · have g2 : (((136 * q : Nat) : Int) < (M.length : Int)) = True := eq_true (by omega)
      have w2 : IntKind.i64.wrap (((136 * q : Nat) : Int) + 136) = ((136 * (q + 1) : Nat) : Int) := by rw [wrap_i64 (by omega) (by omega)]; omega
      have f2 := blkF_succ M q
      generalize blkF M q = A at *
      have f3 := soakN_zero A M (136 * q)
      simp (config := {maxSteps := 1000000}) only [g2, tb10_e, Int.natCast_nonneg, Nat.le_refl, Int.le_refl, List.take_succ_cons, List.take_zero, decide_true, decide_false, Bool.and_false, Bool.false_and, zz, zzN, zzF, fltEv, isArithF, ↓reduceIte, Nat.reduceEqDiff, Nat.reduceBEq, Int.reduceLT, Int.reduceLE, Int.reduceToNat, Int.reduceEq, Int.reduceAdd, Int.reduceSub, Int.reduceMul, Int.reduceNeg, Nat.reduceMul, Nat.reduceSub, Nat.reduceLeDiff, Nat.reduceLT, Int.reduceGT, Int.reduceBEq, Int.reduceBNe, reduceCtorEq, Nat.reduceAdd, Ins.map, Fr.ev, argFr, argE, binEv, intEv, shEv, strEv, unEv, Fr.mark, evRes, tup, lenD, lookupD, loadD, partD, storeD, cellsD, cellOk, setAt, objNe, objSame, eqEv, readEv, buildD, buildRows, rowsOf, elemsOf]
      intro _
      refine run_loop (X := Nat) (fun i => [(0, .str M), (3, .ptr e 1 0), (4, .int .i64 (136 * q : Nat)), (5, .int .i64 i)]) (fun i => AHeap.emp.set e (.cells (encW (soakN A M (136 * q) i)))) (fun i => 136 - i) (fun i => i ≤ 136) 0 (by simp) ?_ ?_ ?_
      · simp only [Int.natCast_nonneg, Nat.le_refl, Int.le_refl, List.take_succ_cons, List.take_zero, decide_true, decide_false, Bool.and_false, Bool.false_and, zz, zzN, zzF, fltEv, isArithF, ↓reduceIte, Nat.reduceEqDiff, Nat.reduceBEq, Int.reduceLT, Int.reduceLE, Int.reduceToNat, Int.reduceEq, Int.reduceAdd, Int.reduceSub, Int.reduceMul, Int.reduceNeg, Nat.reduceMul, Nat.reduceSub, Nat.reduceLeDiff, Nat.reduceLT, Int.reduceGT, Int.reduceBEq, Int.reduceBNe, reduceCtorEq, Nat.reduceAdd, Ins.map, Fr.ev, argFr, argE, binEv, intEv, shEv, strEv, unEv, Fr.mark, evRes, tup, lenD, lookupD, loadD, partD, storeD, cellsD, cellOk, setAt, objNe, objSame, eqEv, readEv, buildD, buildRows, rowsOf, elemsOf]
      · rw [f3]; exact AHeap.sub_refl _
      intro i Q2 hi hQ2
      have lS : (soakN A M (136 * q) i).length = 25 := by rw [len_soakN, lA]
      by_cases c3 : i < 136
      · have g3 : ((i : Int) < 136) = True := eq_true (by omega)
        have wi : IntKind.i64.wrap ((i : Int) + 1) = ((i + 1 : Nat) : Int) := wrap_succ (by omega)
        have m8 : Int.tmod (i : Int) 8 = ((i % 8 : Nat) : Int) := tmod_nat i 8
        have d8 : Int.tdiv (i : Int) 8 = ((i / 8 : Nat) : Int) := tdiv_nat i 8
        have wd : IntKind.i64.wrap ((i / 8 : Nat) : Int) = ((i / 8 : Nat) : Int) := wr _ (by omega)
        have ld : (((i / 8 : Nat) : Int) < 25) = True := eq_true (by omega)
        have pd : 0 + i / 8 * 1 = i / 8 := by omega
        have wm : IntKind.i64.wrap (((i % 8 : Nat) : Int) * 8) = ((i % 8 * 8 : Nat) : Int) := by rw [wrap_i64 (by omega) (by omega)]; omega
        have wu : IntKind.u64.wrap ((i % 8 * 8 : Nat) : Int) = ((i % 8 * 8 : Nat) : Int) := wrap_u64 (by omega) (by omega)
        have lm : (((i % 8 * 8 : Nat) : Int) < 0) = False := eq_false (by omega)
        have wa := wadd (136 * q) i (by omega)
        have la : (((136 * q + i : Nat) : Int) < (M.length : Int)) = True := eq_true (by omega)
        have f4 := soakN_succ A M (136 * q) i
        generalize soakN A M (136 * q) i = S at *
        generalize hb : M.getD (136 * q + i) 0 = b at *
        have wb : IntKind.u64.wrap ((b.toNat : Nat) : Int) = ofW (BitVec.ofNat 64 b.toNat) := by
          have := b.toNat_lt
          rw [wrap_u64 (by omega) (by omega), w_lit _ (by omega)]
        have ws : IntKind.u64.wrap (ofW (BitVec.ofNat 64 b.toNat) * 2 ^ min (i % 8 * 8) IntKind.u64.bits) = ofW (byW b i) := w_shl (BitVec.ofNat 64 b.toNat) (i % 8 * 8) (by omega)
        have gi := encW_get (l := S) (i := i / 8) (by omega)
        simp (config := {maxSteps := 1000000}) only [g3, hb, wi, m8, d8, wd, ld, pd, wm, wu, lm, wa, la, wb, ws, gi, w_xor, encW_set, len_encW, lS, Nat.mul_one, tb10_e, Int.natCast_nonneg, Nat.le_refl, Int.le_refl, List.take_succ_cons, List.take_zero, decide_true, decide_false, Bool.and_false, Bool.false_and, zz, zzN, zzF, fltEv, isArithF, ↓reduceIte, Nat.reduceEqDiff, Nat.reduceBEq, Int.reduceLT, Int.reduceLE, Int.reduceToNat, Int.reduceEq, Int.reduceAdd, Int.reduceSub, Int.reduceMul, Int.reduceNeg, Nat.reduceMul, Nat.reduceSub, Nat.reduceLeDiff, Nat.reduceLT, Int.reduceGT, Int.reduceBEq, Int.reduceBNe, reduceCtorEq, Nat.reduceAdd, Ins.map, Fr.ev, argFr, argE, binEv, intEv, shEv, strEv, unEv, Fr.mark, evRes, tup, lenD, lookupD, loadD, partD, storeD, cellsD, cellOk, setAt, objNe, objSame, eqEv, readEv, buildD, buildRows, rowsOf, elemsOf]
        refine ⟨by omega, hQ2 (i + 1) _ _ (by omega) (by simp only [Int.natCast_nonneg, Nat.le_refl, Int.le_refl, List.take_succ_cons, List.take_zero, decide_true, decide_false, Bool.and_false, Bool.false_and, zz, zzN, zzF, fltEv, isArithF, ↓reduceIte, Nat.reduceEqDiff, Nat.reduceBEq, Int.reduceLT, Int.reduceLE, Int.reduceToNat, Int.reduceEq, Int.reduceAdd, Int.reduceSub, Int.reduceMul, Int.reduceNeg, Nat.reduceMul, Nat.reduceSub, Nat.reduceLeDiff, Nat.reduceLT, Int.reduceGT, Int.reduceBEq, Int.reduceBNe, reduceCtorEq, Nat.reduceAdd, Ins.map, Fr.ev, argFr, argE, binEv, intEv, shEv, strEv, unEv, Fr.mark, evRes, tup, lenD, lookupD, loadD, partD, storeD, cellsD, cellOk, setAt, objNe, objSame, eqEv, readEv, buildD, buildRows, rowsOf, elemsOf]) ?_ (by omega)⟩
        rw [f4]
        exact AHeap.sub_refl _
      · have hc3 : i = 136 := by omega
        subst hc3
        have g3 : (((136 : Nat) : Int) < 136) = False := by simp
        generalize soakN A M (136 * q) 136 = S at *
        have q1 := q10_eq lS
        have tS := takeW lS
        have lT : (turnF S 24).length = 25 := by rw [len_turnF, lS]
        generalize turnF S 24 = T at *
        simp (config := {maxSteps := 1000000}) only [g3, w2, q1, tS, lS, lT, setAt_all, plC_encW, frz_encW, len_encW, tb10_e, Int.natCast_nonneg, Nat.le_refl, Int.le_refl, List.take_succ_cons, List.take_zero, decide_true, decide_false, Bool.and_false, Bool.false_and, zz, zzN, zzF, fltEv, isArithF, ↓reduceIte, Nat.reduceEqDiff, Nat.reduceBEq, Int.reduceLT, Int.reduceLE, Int.reduceToNat, Int.reduceEq, Int.reduceAdd, Int.reduceSub, Int.reduceMul, Int.reduceNeg, Nat.reduceMul, Nat.reduceSub, Nat.reduceLeDiff, Nat.reduceLT, Int.reduceGT, Int.reduceBEq, Int.reduceBNe, reduceCtorEq, Nat.reduceAdd, Ins.map, Fr.ev, argFr, argE, binEv, intEv, shEv, strEv, unEv, Fr.mark, evRes, tup, lenD, lookupD, loadD, partD, storeD, cellsD, cellOk, setAt, objNe, objSame, eqEv, readEv, buildD, buildRows, rowsOf, elemsOf]
        refine ⟨by simp [encW, cellOk], hQ (q + 1) _ _ (by omega) (by simp only [Int.natCast_nonneg, Nat.le_refl, Int.le_refl, List.take_succ_cons, List.take_zero, decide_true, decide_false, Bool.and_false, Bool.false_and, zz, zzN, zzF, fltEv, isArithF, ↓reduceIte, Nat.reduceEqDiff, Nat.reduceBEq, Int.reduceLT, Int.reduceLE, Int.reduceToNat, Int.reduceEq, Int.reduceAdd, Int.reduceSub, Int.reduceMul, Int.reduceNeg, Nat.reduceMul, Nat.reduceSub, Nat.reduceLeDiff, Nat.reduceLT, Int.reduceGT, Int.reduceBEq, Int.reduceBNe, reduceCtorEq, Nat.reduceAdd, Ins.map, Fr.ev, argFr, argE, binEv, intEv, shEv, strEv, unEv, Fr.mark, evRes, tup, lenD, lookupD, loadD, partD, storeD, cellsD, cellOk, setAt, objNe, objSame, eqEv, readEv, buildD, buildRows, rowsOf, elemsOf]) ?_ (by omega)⟩
        rw [f2]
        exact AHeap.sub_refl _
    · have hc2 : q = N := by omega
      subst hc2
      have g2 : (((136 * q : Nat) : Int) < (M.length : Int)) = False := eq_false (by omega)
      generalize blkF M q = A at *
      simp (config := {maxSteps := 1000000}) only [g2, tb10_e, Int.natCast_nonneg, Nat.le_refl, Int.le_refl, List.take_succ_cons, List.take_zero, decide_true, decide_false, Bool.and_false, Bool.false_and, zz, zzN, zzF, fltEv, isArithF, ↓reduceIte, Nat.reduceEqDiff, Nat.reduceBEq, Int.reduceLT, Int.reduceLE, Int.reduceToNat, Int.reduceEq, Int.reduceAdd, Int.reduceSub, Int.reduceMul, Int.reduceNeg, Nat.reduceMul, Nat.reduceSub, Nat.reduceLeDiff, Nat.reduceLT, Int.reduceGT, Int.reduceBEq, Int.reduceBNe, reduceCtorEq, Nat.reduceAdd, Ins.map, Fr.ev, argFr, argE, binEv, intEv, shEv, strEv, unEv, Fr.mark, evRes, tup, lenD, lookupD, loadD, partD, storeD, cellsD, cellOk, setAt, objNe, objSame, eqEv, readEv, buildD, buildRows, rowsOf, elemsOf]
      intro _ r n1 n2
      refine run_loop (X := Nat) (fun i => [(3, .ptr e 1 0), (6, .row r (i + 2) 0 i), (7, .int .i64 i)]) (fun i => (AHeap.emp.set e (.cells (encW A))).set r (.row 1 (i + 2) (encB (outK A i)) false)) (fun i => 32 - i) (fun i => i ≤ 32) 0 (by simp) ?_ ?_ ?_
      · simp only [Int.natCast_nonneg, Nat.le_refl, Int.le_refl, List.take_succ_cons, List.take_zero, decide_true, decide_false, Bool.and_false, Bool.false_and, zz, zzN, zzF, fltEv, isArithF, ↓reduceIte, Nat.reduceEqDiff, Nat.reduceBEq, Int.reduceLT, Int.reduceLE, Int.reduceToNat, Int.reduceEq, Int.reduceAdd, Int.reduceSub, Int.reduceMul, Int.reduceNeg, Nat.reduceMul, Nat.reduceSub, Nat.reduceLeDiff, Nat.reduceLT, Int.reduceGT, Int.reduceBEq, Int.reduceBNe, reduceCtorEq, Nat.reduceAdd, Ins.map, Fr.ev, argFr, argE, binEv, intEv, shEv, strEv, unEv, Fr.mark, evRes, tup, lenD, lookupD, loadD, partD, storeD, cellsD, cellOk, setAt, objNe, objSame, eqEv, readEv, buildD, buildRows, rowsOf, elemsOf]
      · exact AHeap.sub_refl _
      intro i Q3 hi hQ3
      have lo := len_outK A i
      by_cases c3 : i < 32
      · have g3 : ((i : Int) < 32) = True := eq_true (by omega)
        have wi : IntKind.i64.wrap ((i : Int) + 1) = ((i + 1 : Nat) : Int) := wrap_succ (by omega)
        have mi : Int.tmod (i : Int) 8 = ((i % 8 : Nat) : Int) := tmod_nat i 8
        have di : Int.tdiv (i : Int) 8 = ((i / 8 : Nat) : Int) := tdiv_nat i 8
        have wdi : IntKind.i64.wrap ((i / 8 : Nat) : Int) = ((i / 8 : Nat) : Int) := wr _ (by omega)
        have gi := encW_get (l := A) (i := i / 8) (by omega)
        have li : (((i / 8 : Nat) : Int) < 25) = True := eq_true (by omega)
        have pi : 0 + i / 8 * 1 = i / 8 := by omega
        have wmi : IntKind.i64.wrap (((i % 8 : Nat) : Int) * 8) = ((i % 8 * 8 : Nat) : Int) := by rw [wrap_i64 (by omega) (by omega)]; omega
        have wu : IntKind.u64.wrap ((i % 8 * 8 : Nat) : Int) = ((i % 8 * 8 : Nat) : Int) := wrap_u64 (by omega) (by omega)
        have lmi : (((i % 8 * 8 : Nat) : Int) < 0) = False := eq_false (by omega)
        have wsi := w_shr (A.getD (i / 8) 0) (i % 8 * 8) (by omega)
        have c8 : IntKind.u8.wrap (ofW (A.getD (i / 8) 0 >>> (i % 8 * 8))) = ((outB A i).toNat : Int) := conv8 _
        have f := outK_succ A i
        generalize outK A i = O at *
        generalize outB A i = o at *
        simp (config := {maxSteps := 1000000}) only [n1, n2, g3, wi, mi, di, wdi, gi, li, pi, wmi, wu, lmi, wsi, c8, lo, len_encW, Nat.mul_one, tb10_e, Int.natCast_nonneg, Nat.le_refl, Int.le_refl, List.take_succ_cons, List.take_zero, decide_true, decide_false, Bool.and_false, Bool.false_and, zz, zzN, zzF, fltEv, isArithF, ↓reduceIte, Nat.reduceEqDiff, Nat.reduceBEq, Int.reduceLT, Int.reduceLE, Int.reduceToNat, Int.reduceEq, Int.reduceAdd, Int.reduceSub, Int.reduceMul, Int.reduceNeg, Nat.reduceMul, Nat.reduceSub, Nat.reduceLeDiff, Nat.reduceLT, Int.reduceGT, Int.reduceBEq, Int.reduceBNe, reduceCtorEq, Nat.reduceAdd, Ins.map, Fr.ev, argFr, argE, binEv, intEv, shEv, strEv, unEv, Fr.mark, evRes, tup, lenD, lookupD, loadD, partD, storeD, cellsD, cellOk, setAt, objNe, objSame, eqEv, readEv, buildD, buildRows, rowsOf, elemsOf]
        have ee : encB O ++ [[D.int IntKind.u8 (o.toNat : Int)]] = encB (O ++ [o]) := by simp [encB]
        have e3 : i + 1 + 2 = i + 2 + 1 := by omega
        refine ⟨by omega, hQ3 (i + 1) _ _ (by omega) (by simp only [e3, Int.natCast_nonneg, Nat.le_refl, Int.le_refl, List.take_succ_cons, List.take_zero, decide_true, decide_false, Bool.and_false, Bool.false_and, zz, zzN, zzF, fltEv, isArithF, ↓reduceIte, Nat.reduceEqDiff, Nat.reduceBEq, Int.reduceLT, Int.reduceLE, Int.reduceToNat, Int.reduceEq, Int.reduceAdd, Int.reduceSub, Int.reduceMul, Int.reduceNeg, Nat.reduceMul, Nat.reduceSub, Nat.reduceLeDiff, Nat.reduceLT, Int.reduceGT, Int.reduceBEq, Int.reduceBNe, reduceCtorEq, Nat.reduceAdd, Ins.map, Fr.ev, argFr, argE, binEv, intEv, shEv, strEv, unEv, Fr.mark, evRes, tup, lenD, lookupD, loadD, partD, storeD, cellsD, cellOk, setAt, objNe, objSame, eqEv, readEv, buildD, buildRows, rowsOf, elemsOf]) ?_ (by omega)⟩
        rw [f, ee]
        exact AHeap.sub_refl _
      · have hc3 : i = 32 := by omega
        subst hc3
        have g3 : (((32 : Nat) : Int) < 32) = False := by simp
        have fo : outK A 32 = shaB s := law
        rw [fo] at lo ⊢
        generalize shaB s = O at *
        simp (config := {maxSteps := 1000000}) only [n1, n2, g3, lo, tb10_e, Int.natCast_nonneg, Nat.le_refl, Int.le_refl, List.take_succ_cons, List.take_zero, decide_true, decide_false, Bool.and_false, Bool.false_and, zz, zzN, zzF, fltEv, isArithF, ↓reduceIte, Nat.reduceEqDiff, Nat.reduceBEq, Int.reduceLT, Int.reduceLE, Int.reduceToNat, Int.reduceEq, Int.reduceAdd, Int.reduceSub, Int.reduceMul, Int.reduceNeg, Nat.reduceMul, Nat.reduceSub, Nat.reduceLeDiff, Nat.reduceLT, Int.reduceGT, Int.reduceBEq, Int.reduceBNe, reduceCtorEq, Nat.reduceAdd, Ins.map, Fr.ev, argFr, argE, binEv, intEv, shEv, strEv, unEv, Fr.mark, evRes, tup, lenD, lookupD, loadD, partD, storeD, cellsD, cellOk, setAt, objNe, objSame, eqEv, readEv, buildD, buildRows, rowsOf, elemsOf]
        exact .inl (List.take_of_length_le (by omega))
def q13 : List D → Option D
  | [.str s] => if s.length ≤ 9000000000000000000 then some (.str (shaB s)) else none
  | _ => none
theorem q13_ok (args : List D) (d : D) (h : q13 args = some d) : PCall Try.prog 13 args d := by
  unfold q13 at h
  split at h
  · split at h
    · cases h; exact refSum_c _ (by assumption)
    · cases h
  · cases h

theorem q13_eq {s : List UInt8} (h : s.length ≤ 9000000000000000000) : q13 [.str s] = some (.str (shaB s)) := by
  simp only [q13]
  rw [if_pos h]
end Go.Proofs.Ytiilnakenlegmaa.Zz
