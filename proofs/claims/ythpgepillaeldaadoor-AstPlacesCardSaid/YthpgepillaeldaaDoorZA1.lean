/- Contracts: the wire's reader. -/
import Derived.Test.YthpgepillaeldaaDoorZH1
import Derived.Test.YthpgepillaeldaaDoorZW1
set_option linter.unnecessarySimpa false
namespace Go.Proofs.YthpgepillaeldaaDoor.Zz
set_option linter.unusedVariables false
set_option linter.unusedSimpArgs false
set_option maxRecDepth 20000
def p68n : Plan := ⟨⟨[], [], [], [], [], []⟩, [], [], false⟩
/-- (*cupel/wire.Reader).Fail (2 parameters, 0 captured) -/
def s68n : Stm :=
  .seq (.ops [⟨.mov (.t 0), (some 4), none, true⟩,
     ⟨.eql .ptr true (.t 4) (.c .nilptr), (some 5), none, true⟩,
     ⟨.mov (.t 5), (some 6), none, true⟩,
     ⟨.mov (.t 0), (some 7), (some (6, true)), true⟩,
     ⟨.nilCheck (.t 7), (some 8), (some (6, true)), true⟩,
     ⟨.fieldAddr 2 (.t 8), (some 9), (some (6, true)), true⟩,
     ⟨.load none (.t 9), (some 10), (some (6, true)), false⟩,
     ⟨.bin .eql (.t 10) (.c (.int .i64 0)), (some 11), (some (6, true)), true⟩,
     ⟨.pick (.t 6) (.t 11) (.c (.bool false)), (some 12), none, true⟩,
     ⟨.mov (.t 12), (some 13), none, true⟩,
     ⟨.mov (.t 1), (some 14), (some (13, true)), true⟩,
     ⟨.bin .neq (.t 14) (.c (.int .i64 0)), (some 15), (some (13, true)), true⟩,
     ⟨.pick (.t 13) (.t 15) (.c (.bool false)), (some 16), none, true⟩])
  (.cond (.t 16)
   (.ops [⟨.mov (.t 0), (some 17), none, true⟩,
      ⟨.mov (.t 0), (some 18), none, true⟩,
      ⟨.mov (.t 1), (some 19), none, true⟩,
      ⟨.nilCheck (.t 17), (some 20), none, true⟩,
      ⟨.fieldAddr 0 (.t 20), (some 21), none, true⟩,
      ⟨.store 1 (.t 21) (.c (.str [])), none, none, false⟩,
      ⟨.nilCheck (.t 18), (some 22), none, true⟩,
      ⟨.fieldAddr 2 (.t 22), (some 23), none, true⟩,
      ⟨.store 1 (.t 23) (.t 19), none, none, false⟩])
   (.skip))
theorem st68n : stmOf Tryd.prog 68 p68n = some (s68n, [], 24) := by kernel_rfl

def p69n : Plan := ⟨⟨[], [], [], [], [], []⟩, [], [], false⟩
/-- (*cupel/wire.Reader).Err (1 parameters, 0 captured) -/
def s69n : Stm :=
  .seq (.ops [⟨.mov (.c (.int .i64 0)), (some 2), none, true⟩])
  (.seq (.seq (.ops [⟨.mov (.t 0), (some 3), none, true⟩,
      ⟨.eql .ptr false (.t 3) (.c .nilptr), (some 4), none, true⟩])
   (.cond (.t 4)
    (.seq (.ops [⟨.mov (.c (.int .i64 1)), (some 2), none, true⟩])
     (.ret))
    (.skip)))
  (.seq (.ops [⟨.mov (.t 0), (some 5), none, true⟩,
     ⟨.nilCheck (.t 5), (some 6), none, true⟩,
     ⟨.fieldAddr 2 (.t 6), (some 7), none, true⟩,
     ⟨.load none (.t 7), (some 8), none, false⟩,
     ⟨.mov (.t 8), (some 2), none, true⟩])
  (.ret)))
theorem st69n : stmOf Tryd.prog 69 p69n = some (s69n, [.tmp 2], 9) := by kernel_rfl

def p67n : Plan := ⟨⟨[], [], [], [], [], []⟩, [], [], false⟩
/-- (*cupel/wire.Reader).Left (1 parameters, 0 captured) -/
def s67n : Stm :=
  .seq (.ops [⟨.mov (.c (.int .i64 0)), (some 2), none, true⟩])
  (.seq (.seq (.ops [⟨.mov (.t 0), (some 3), none, true⟩,
      ⟨.eql .ptr false (.t 3) (.c .nilptr), (some 4), none, true⟩])
   (.cond (.t 4)
    (.seq (.ops [⟨.mov (.c (.int .i64 0)), (some 2), none, true⟩])
     (.ret))
    (.skip)))
  (.seq (.ops [⟨.mov (.t 0), (some 5), none, true⟩,
     ⟨.nilCheck (.t 5), (some 6), none, true⟩,
     ⟨.fieldAddr 0 (.t 6), (some 7), none, true⟩,
     ⟨.load none (.t 7), (some 8), none, false⟩,
     ⟨.len .str (.t 8), (some 9), none, false⟩,
     ⟨.mov (.t 9), (some 2), none, true⟩])
  (.ret)))
theorem st67n : stmOf Tryd.prog 67 p67n = some (s67n, [.tmp 2], 10) := by kernel_rfl

def p112n : Plan := ⟨⟨[], [(4, 1), (6, 1)], [], [], [], []⟩, [(10, [0, 1, 2, 3, 4, 5, 6, 7, 8, 9, 10, 11, 12, 13, 14, 15, 16, 17, 18, 19])], [], false⟩
/-- (*cupel/wire.Reader).Bytes (2 parameters, 0 captured) -/
def s112n : Stm :=
  .seq (.ops [⟨.mov (.c (.str [])), (some 4), none, true⟩])
  (.seq (.seq (.ops [⟨.mov (.t 0), (some 6), none, true⟩,
      ⟨.eql .ptr false (.t 6) (.c .nilptr), (some 7), none, true⟩])
   (.cond (.t 7)
    (.seq (.ops [⟨.mov (.c (.str [])), (some 4), none, true⟩])
     (.ret))
    (.skip)))
  (.seq (.seq (.ops [⟨.mov (.t 1), (some 8), none, true⟩,
      ⟨.bin .lss (.t 8) (.c (.int .i64 0)), (some 9), none, true⟩])
   (.cond (.t 9)
    (.ops [⟨.mov (.t 0), (some 10), none, true⟩,
       ⟨.call (.f 68) [(.t 10), (.c (.int .i64 1))], (some 11), none, false⟩])
    (.skip)))
  (.seq (.seq (.ops [⟨.mov (.t 1), (some 12), none, true⟩,
      ⟨.mov (.t 0), (some 13), none, true⟩,
      ⟨.nilCheck (.t 13), (some 14), none, true⟩,
      ⟨.fieldAddr 0 (.t 14), (some 15), none, true⟩,
      ⟨.load none (.t 15), (some 16), none, false⟩,
      ⟨.len .str (.t 16), (some 17), none, false⟩,
      ⟨.bin .gtr (.t 12) (.t 17), (some 18), none, true⟩])
   (.cond (.t 18)
    (.ops [⟨.mov (.t 0), (some 19), none, true⟩,
       ⟨.call (.f 68) [(.t 19), (.c (.int .i64 4))], (some 20), none, false⟩])
    (.skip)))
  (.seq (.seq (.ops [⟨.mov (.t 0), (some 21), none, true⟩,
      ⟨.nilCheck (.t 21), (some 22), none, true⟩,
      ⟨.fieldAddr 2 (.t 22), (some 23), none, true⟩,
      ⟨.load none (.t 23), (some 24), none, false⟩,
      ⟨.bin .neq (.t 24) (.c (.int .i64 0)), (some 25), none, true⟩])
   (.cond (.t 25)
    (.seq (.ops [⟨.mov (.c (.str [])), (some 4), none, true⟩])
     (.ret))
    (.skip)))
  (.seq (.ops [⟨.mov (.t 0), (some 26), none, true⟩,
     ⟨.nilCheck (.t 26), (some 27), none, true⟩,
     ⟨.fieldAddr 0 (.t 27), (some 28), none, true⟩,
     ⟨.load none (.t 28), (some 29), none, false⟩,
     ⟨.mov (.t 1), (some 30), none, true⟩,
     ⟨.slice .str (.t 29) none (some (.t 30)) none, (some 31), none, false⟩,
     ⟨.mov (.t 31), (some 5), none, true⟩])
  (.seq (.opsD [⟨.mov (.t 0), (some 32), none, true⟩,
     ⟨.mov (.t 0), (some 33), none, true⟩,
     ⟨.mov (.t 0), (some 34), none, true⟩,
     ⟨.nilCheck (.t 34), (some 35), none, true⟩,
     ⟨.fieldAddr 0 (.t 35), (some 36), none, true⟩,
     ⟨.load none (.t 36), (some 37), none, false⟩,
     ⟨.mov (.t 1), (some 38), none, true⟩,
     ⟨.slice .str (.t 37) (some (.t 38)) none none, (some 39), none, true⟩,
     ⟨.mov (.t 0), (some 40), none, true⟩,
     ⟨.nilCheck (.t 40), (some 41), none, true⟩,
     ⟨.fieldAddr 1 (.t 41), (some 42), none, true⟩,
     ⟨.load none (.t 42), (some 43), none, false⟩,
     ⟨.mov (.t 1), (some 44), none, true⟩,
     ⟨.bin .add (.t 43) (.t 44), (some 45), none, true⟩,
     ⟨.nilCheck (.t 32), (some 46), none, true⟩,
     ⟨.fieldAddr 0 (.t 46), (some 47), none, true⟩,
     ⟨.store 1 (.t 47) (.t 39), none, none, false⟩,
     ⟨.nilCheck (.t 33), (some 48), none, true⟩,
     ⟨.fieldAddr 1 (.t 48), (some 49), none, true⟩,
     ⟨.store 1 (.t 49) (.t 45), none, none, false⟩])
  (.seq (.ops [⟨.mov (.t 5), (some 50), none, true⟩,
     ⟨.mov (.t 50), (some 4), none, true⟩])
  (.ret))))))))
theorem st112n : stmOf Tryd.prog 112 p112n = some (s112n, [.tmp 4], 51) := by kernel_rfl

def p95n : Plan := ⟨⟨[], [(2, 1), (4, 2)], [], [], [], []⟩, [], [], false⟩
/-- (*cupel/wire.Reader).Number (2 parameters, 0 captured) -/
def s95n : Stm :=
  .seq (.ops [⟨.mov (.c (.int .u64 0)), (some 4), none, true⟩])
  (.seq (.seq (.ops [⟨.mov (.t 1), (some 9), none, true⟩,
      ⟨.bin .gtr (.t 9) (.c (.int .i64 8)), (some 10), none, true⟩])
   (.cond (.t 10)
    (.ops [⟨.mov (.t 0), (some 11), none, true⟩,
       ⟨.call (.f 68) [(.t 11), (.c (.int .i64 1))], (some 12), none, false⟩])
    (.skip)))
  (.seq (.ops [⟨.mov (.c (.int .u64 0)), (some 5), none, true⟩,
     ⟨.mov (.c (.int .i64 0)), (some 6), none, true⟩])
  (.seq (.seq (.ops [⟨.mov (.t 0), (some 13), none, true⟩,
      ⟨.mov (.t 1), (some 14), none, true⟩,
      ⟨.call (.f 112) [(.t 13), (.t 14)], (some 15), none, false⟩,
      ⟨.conv .strBytes (.t 15), (some 16), none, true⟩,
      ⟨.len .sl (.t 16), (some 17), none, false⟩,
      ⟨.mov (.c (.int .i64 0)), (some 18), none, true⟩])
   (.block 0 (.loop (.seq (.ops [⟨.bin .lss (.t 18) (.t 17), (some 19), none, true⟩])
     (.seq (.cond (.t 19)
       (.skip)
       (.exit 0))
     (.seq (.block 1 (.seq (.ops [⟨.indexAddrS 1 (.t 16) (.t 18), (some 20), none, false⟩,
          ⟨.load none (.t 20), (some 21), none, false⟩,
          ⟨.mov (.t 21), (some 8), none, true⟩])
       (.seq (.ops [⟨.mov (.t 5), (some 22), none, true⟩,
          ⟨.mov (.t 8), (some 23), none, true⟩,
          ⟨.conv (.intInt .u64) (.t 23), (some 24), none, true⟩,
          ⟨.mov (.t 6), (some 25), none, true⟩,
          ⟨.bin .shl (.t 24) (.t 25), (some 26), none, true⟩,
          ⟨.bin .or (.t 22) (.t 26), (some 27), none, true⟩,
          ⟨.mov (.t 27), (some 5), none, true⟩])
       (.ops [⟨.mov (.t 6), (some 28), none, true⟩,
         ⟨.bin .add (.t 28) (.c (.int .i64 8)), (some 29), none, true⟩,
         ⟨.mov (.t 29), (some 6), none, true⟩]))))
     (.ops [⟨.bin .add (.t 18) (.c (.int .i64 1)), (some 30), none, true⟩,
       ⟨.mov (.t 30), (some 18), none, true⟩])))))))
  (.seq (.ops [⟨.mov (.t 5), (some 31), none, true⟩,
     ⟨.mov (.t 31), (some 4), none, true⟩])
  (.ret)))))
theorem st95n : stmOf Tryd.prog 95 p95n = some (s95n, [.tmp 4], 32) := by kernel_rfl

def p113n : Plan := ⟨⟨[], [(1, 1), (3, 1)], [], [], [], []⟩, [], [], false⟩
/-- (*cupel/wire.Reader).Count (2 parameters, 0 captured) -/
def s113n : Stm :=
  .seq (.ops [⟨.mov (.c (.int .i64 0)), (some 4), none, true⟩])
  (.seq (.ops [⟨.mov (.t 0), (some 6), none, true⟩,
     ⟨.call (.f 95) [(.t 6), (.c (.int .i64 4))], (some 7), none, false⟩,
     ⟨.mov (.t 7), (some 5), none, true⟩])
  (.seq (.seq (.ops [⟨.mov (.t 1), (some 8), none, true⟩,
      ⟨.bin .lss (.t 8) (.c (.int .i64 0)), (some 9), none, true⟩,
      ⟨.mov (.t 9), (some 10), none, true⟩,
      ⟨.mov (.t 5), (some 11), (some (10, false)), true⟩,
      ⟨.mov (.t 1), (some 12), (some (10, false)), true⟩,
      ⟨.conv (.intInt .u64) (.t 12), (some 13), (some (10, false)), true⟩,
      ⟨.bin .gtr (.t 11) (.t 13), (some 14), (some (10, false)), true⟩,
      ⟨.pick (.t 10) (.c (.bool true)) (.t 14), (some 15), none, true⟩])
   (.cond (.t 15)
    (.seq (.ops [⟨.mov (.t 0), (some 16), none, true⟩,
        ⟨.call (.f 68) [(.t 16), (.c (.int .i64 3))], (some 17), none, false⟩])
     (.seq (.ops [⟨.mov (.c (.int .i64 0)), (some 4), none, true⟩])
     (.ret)))
    (.skip)))
  (.seq (.ops [⟨.mov (.t 5), (some 18), none, true⟩,
     ⟨.conv (.intInt .i64) (.t 18), (some 19), none, true⟩,
     ⟨.mov (.t 19), (some 4), none, true⟩])
  (.ret))))
theorem st113n : stmOf Tryd.prog 113 p113n = some (s113n, [.tmp 4], 20) := by kernel_rfl

def p96n : Plan := ⟨⟨[], [(1, 3), (1, 4)], [], [], [], []⟩, [], [], false⟩
/-- (*cupel/wire.Reader).Text (2 parameters, 0 captured) -/
def s96n : Stm :=
  .seq (.ops [⟨.mov (.c (.str [])), (some 4), none, true⟩])
  (.seq (.ops [⟨.mov (.t 0), (some 5), none, true⟩,
     ⟨.mov (.t 0), (some 6), none, true⟩,
     ⟨.mov (.t 1), (some 7), none, true⟩,
     ⟨.call (.f 113) [(.t 6), (.t 7)], (some 8), none, false⟩,
     ⟨.call (.f 112) [(.t 5), (.t 8)], (some 9), none, false⟩,
     ⟨.mov (.t 9), (some 4), none, true⟩])
  (.ret))
theorem st96n : stmOf Tryd.prog 96 p96n = some (s96n, [.tmp 4], 10) := by kernel_rfl

def p38n : Plan := ⟨⟨[], [(1, 1), (2, 1), (3, 1)], [], [], [], []⟩, [], [], false⟩
/-- (*cupel/wire.Reader).End (1 parameters, 0 captured) -/
def s38n : Stm :=
  .seq (.ops [⟨.mov (.c (.int .i64 0)), (some 2), none, true⟩])
  (.seq (.seq (.ops [⟨.mov (.t 0), (some 3), none, true⟩,
      ⟨.call (.f 67) [(.t 3)], (some 4), none, false⟩,
      ⟨.bin .gtr (.t 4) (.c (.int .i64 0)), (some 5), none, true⟩])
   (.cond (.t 5)
    (.ops [⟨.mov (.t 0), (some 6), none, true⟩,
       ⟨.call (.f 68) [(.t 6), (.c (.int .i64 5))], (some 7), none, false⟩])
    (.skip)))
  (.seq (.ops [⟨.mov (.t 0), (some 8), none, true⟩,
     ⟨.call (.f 69) [(.t 8)], (some 9), none, false⟩,
     ⟨.mov (.t 9), (some 2), none, true⟩])
  (.ret)))
theorem st38n : stmOf Tryd.prog 38 p38n = some (s38n, [.tmp 2], 10) := by kernel_rfl

/-- What a reader holds. -/
structure Rd where
  rest : List UInt8
  took : Int
  err : Int
def encR (r : Rd) : List D := [.str r.rest, .int .i64 r.took, .int .i64 r.err]
def rFail (e : Int) (r : Rd) : Rd := if r.err = 0 ∧ e ≠ 0 then ⟨[], r.took, e⟩ else r
def rBytes (n : Int) (r : Rd) : List UInt8 × Rd :=
  let r1 := if n < 0 then rFail 1 r else r
  let r2 := if (r1.rest.length : Int) < n then rFail 4 r1 else r1
  if r2.err = 0 then (r2.rest.take n.toNat, ⟨r2.rest.drop n.toNat, IntKind.i64.wrap (r2.took + n), 0⟩) else ([], r2)
def rNumber (m : Int) (r : Rd) : Nat × Rd := (unLe (rBytes m r).1, (rBytes m r).2)
def rCount (most : Int) (r : Rd) : Int × Rd := if most < 0 ∨ most < ((rNumber 4 r).1 : Int) then (0, rFail 3 (rNumber 4 r).2) else ((rNumber 4 r).1, (rNumber 4 r).2)
def rText (most : Int) (r : Rd) : List UInt8 × Rd := rBytes (rCount most r).1 (rCount most r).2
def rEnd (r : Rd) : Rd := if 0 < r.rest.length then rFail 5 r else r
theorem fail_c (h : AHeap) (id : Nat) (r : Rd) (e : Int) (hid : h.f id = some (.cells (encR r))) : ACalls Tryd.prog 68 [.ptr id 1 0, .int .i64 e] h fun o h' => ∃ d, o = .ret d ∧ d = .tuple [] ∧ h' = h.set id (.cells (encR (rFail e r))) := by
  refine ACalls.runF (Tab.zero_ok _) st68n (by simp) ?_
  obtain ⟨s, t, x⟩ := r
  by_cases c1n : x = 0
  · have g1 : (x == 0) = true := by simpa using c1n
    by_cases c2n : e = 0
    · have g2 : (e != 0) = false := by simpa using c2n
      simp (config := {maxSteps := 1000000}) only [s68n, encR, hid, g1, g2, i_callNe, Int.natCast_nonneg, Nat.le_refl, Int.le_refl, List.take_succ_cons, List.take_zero, decide_true, decide_false, Bool.and_false, Bool.false_and, zz, zzN, zzF, zzD, zzM, cond_true, cond_false, ↓reduceIte, Nat.reduceEqDiff, Nat.reduceBEq, Int.reduceLT, Int.reduceLE, Int.reduceToNat, Int.reduceEq, Int.reduceAdd, Int.reduceSub, Int.reduceMul, Int.reduceNeg, Nat.reduceMul, Nat.reduceSub, Nat.reduceLeDiff, Nat.reduceLT, Int.reduceGT, Int.reduceGE, Int.reduceBEq, Int.reduceBNe, reduceCtorEq, Nat.reduceAdd]
      refine ⟨_, ?_, rfl⟩
      have e0 : rFail e ⟨s, t, x⟩ = ⟨s, t, x⟩ := by unfold rFail; rw [if_neg (fun k => k.2 c2n)]
      simp only [e0]
      exact AHeap.sub_X (AHeap.subX_l hid AHeap.subX_refl)
    · have g2 : (e != 0) = true := by simpa using c2n
      simp (config := {maxSteps := 1000000}) only [s68n, encR, hid, g1, g2, i_callNe, Int.natCast_nonneg, Nat.le_refl, Int.le_refl, List.take_succ_cons, List.take_zero, decide_true, decide_false, Bool.and_false, Bool.false_and, zz, zzN, zzF, zzD, zzM, cond_true, cond_false, ↓reduceIte, Nat.reduceEqDiff, Nat.reduceBEq, Int.reduceLT, Int.reduceLE, Int.reduceToNat, Int.reduceEq, Int.reduceAdd, Int.reduceSub, Int.reduceMul, Int.reduceNeg, Nat.reduceMul, Nat.reduceSub, Nat.reduceLeDiff, Nat.reduceLT, Int.reduceGT, Int.reduceGE, Int.reduceBEq, Int.reduceBNe, reduceCtorEq, Nat.reduceAdd]
      refine ⟨_, ?_, rfl⟩
      simp only [rFail]
      rw [if_pos ⟨c1n, c2n⟩]
      exact AHeap.sub_refl _
  · have g1 : (x == 0) = false := by simpa using c1n
    simp (config := {maxSteps := 1000000}) only [s68n, encR, hid, g1, i_callNe, Int.natCast_nonneg, Nat.le_refl, Int.le_refl, List.take_succ_cons, List.take_zero, decide_true, decide_false, Bool.and_false, Bool.false_and, zz, zzN, zzF, zzD, zzM, cond_true, cond_false, ↓reduceIte, Nat.reduceEqDiff, Nat.reduceBEq, Int.reduceLT, Int.reduceLE, Int.reduceToNat, Int.reduceEq, Int.reduceAdd, Int.reduceSub, Int.reduceMul, Int.reduceNeg, Nat.reduceMul, Nat.reduceSub, Nat.reduceLeDiff, Nat.reduceLT, Int.reduceGT, Int.reduceGE, Int.reduceBEq, Int.reduceBNe, reduceCtorEq, Nat.reduceAdd]
    refine ⟨_, ?_, rfl⟩
    simp only [rFail]
    rw [if_neg (fun k => c1n k.1)]
    exact AHeap.sub_X (AHeap.subX_l hid AHeap.subX_refl)
def c68n (args : List D) (h : AHeap) (K : D → AHeap → Prop) : Prop := ∃ (id : Nat) (r : Rd) (e : Int), args = [.ptr id 1 0, .int .i64 e] ∧ (h.f id = some (.cells (encR r))) ∧ K (.tuple []) (h.set id (.cells (encR (rFail e r))))
theorem c68n_mono (args : List D) (h : AHeap) (K K' : D → AHeap → Prop) (hk : ∀ d h, K d h → K' d h) (c : c68n args h K) : c68n args h K' := by
  obtain ⟨id, r, e, hE, hP, hK⟩ := c
  exact ⟨id, r, e, hE, hP, hk _ _ hK⟩
theorem c68n_ok (args : List D) (h : AHeap) (K : D → AHeap → Prop) (c : c68n args h K) : ACalls Tryd.prog 68 args h fun o h' => ∃ d, o = .ret d ∧ K d h' := by
  obtain ⟨id, r, e, rfl, hP, hK⟩ := c
  exact (fail_c h id r e hP).mono fun o h' ⟨d, hE1, hE2, hE3⟩ => ⟨d, hE1, by rw [hE2, hE3]; exact hK⟩

def tb68n : Tab := Tab.zero.addW 68 c68n c68n_mono
theorem tb68n_q : tb68n.q = Tab.zero.q := rfl
theorem tb68n_a : tb68n.a = Tab.zero.a := rfl
theorem tb68n_c (g : FuncId) (args : List D) (h : AHeap) (K E : D → AHeap → Prop) : tb68n.c g args h K E = if g = 68 then c68n args h K else Tab.zero.c g args h K E := rfl
theorem tb68n_ok : tb68n.ok Tryd.prog := Tab.addW_ok (Tab.zero_ok _) c68n_ok
theorem tb68n_e : type_of% (And.intro @tb68n_q (And.intro @tb68n_a @tb68n_c)) := (And.intro @tb68n_q (And.intro @tb68n_a @tb68n_c))

theorem err_c (h : AHeap) (id : Nat) (r : Rd) (hid : h.f id = some (.cells (encR r))) : ACalls Tryd.prog 69 [.ptr id 1 0] h fun o h' => ∃ d, o = .ret d ∧ d = .int .i64 r.err ∧ h' = h := by
  refine ACalls.runF (Tab.zero_ok _) st69n (by simp) ?_
  simp (config := {maxSteps := 1000000}) only [s69n, encR, hid, i_callNe, Int.natCast_nonneg, Nat.le_refl, Int.le_refl, List.take_succ_cons, List.take_zero, decide_true, decide_false, Bool.and_false, Bool.false_and, zz, zzN, zzF, zzD, zzM, cond_true, cond_false, ↓reduceIte, Nat.reduceEqDiff, Nat.reduceBEq, Int.reduceLT, Int.reduceLE, Int.reduceToNat, Int.reduceEq, Int.reduceAdd, Int.reduceSub, Int.reduceMul, Int.reduceNeg, Nat.reduceMul, Nat.reduceSub, Nat.reduceLeDiff, Nat.reduceLT, Int.reduceGT, Int.reduceGE, Int.reduceBEq, Int.reduceBNe, reduceCtorEq, Nat.reduceAdd]
  exact ⟨_, AHeap.sub_refl _, rfl⟩
def c69n (args : List D) (h : AHeap) (K : D → AHeap → Prop) : Prop := ∃ (id : Nat) (r : Rd), args = [.ptr id 1 0] ∧ (h.f id = some (.cells (encR r))) ∧ K (.int .i64 r.err) h
theorem c69n_mono (args : List D) (h : AHeap) (K K' : D → AHeap → Prop) (hk : ∀ d h, K d h → K' d h) (c : c69n args h K) : c69n args h K' := by
  obtain ⟨id, r, hE, hP, hK⟩ := c
  exact ⟨id, r, hE, hP, hk _ _ hK⟩
theorem c69n_ok (args : List D) (h : AHeap) (K : D → AHeap → Prop) (c : c69n args h K) : ACalls Tryd.prog 69 args h fun o h' => ∃ d, o = .ret d ∧ K d h' := by
  obtain ⟨id, r, rfl, hP, hK⟩ := c
  exact (err_c h id r hP).mono fun o h' ⟨d, hE1, hE2, hE3⟩ => ⟨d, hE1, by rw [hE2, hE3]; exact hK⟩

def tb69n : Tab := tb68n.addW 69 c69n c69n_mono
theorem tb69n_q : tb69n.q = tb68n.q := rfl
theorem tb69n_a : tb69n.a = tb68n.a := rfl
theorem tb69n_c (g : FuncId) (args : List D) (h : AHeap) (K E : D → AHeap → Prop) : tb69n.c g args h K E = if g = 69 then c69n args h K else tb68n.c g args h K E := rfl
theorem tb69n_ok : tb69n.ok Tryd.prog := Tab.addW_ok tb68n_ok c69n_ok
theorem tb69n_e : type_of% (And.intro (And.intro @tb69n_q (And.intro @tb69n_a @tb69n_c)) @tb68n_e) := (And.intro (And.intro @tb69n_q (And.intro @tb69n_a @tb69n_c)) @tb68n_e)

theorem left_c (h : AHeap) (id : Nat) (r : Rd) (hid : h.f id = some (.cells (encR r))) : ACalls Tryd.prog 67 [.ptr id 1 0] h fun o h' => ∃ d, o = .ret d ∧ d = .int .i64 r.rest.length ∧ h' = h := by
  refine ACalls.runF (Tab.zero_ok _) st67n (by simp) ?_
  simp (config := {maxSteps := 1000000}) only [s67n, encR, hid, i_callNe, Int.natCast_nonneg, Nat.le_refl, Int.le_refl, List.take_succ_cons, List.take_zero, decide_true, decide_false, Bool.and_false, Bool.false_and, zz, zzN, zzF, zzD, zzM, cond_true, cond_false, ↓reduceIte, Nat.reduceEqDiff, Nat.reduceBEq, Int.reduceLT, Int.reduceLE, Int.reduceToNat, Int.reduceEq, Int.reduceAdd, Int.reduceSub, Int.reduceMul, Int.reduceNeg, Nat.reduceMul, Nat.reduceSub, Nat.reduceLeDiff, Nat.reduceLT, Int.reduceGT, Int.reduceGE, Int.reduceBEq, Int.reduceBNe, reduceCtorEq, Nat.reduceAdd]
  intro _
  exact ⟨_, AHeap.sub_refl _, rfl⟩
def c67n (args : List D) (h : AHeap) (K : D → AHeap → Prop) : Prop := ∃ (id : Nat) (r : Rd), args = [.ptr id 1 0] ∧ (h.f id = some (.cells (encR r))) ∧ K (.int .i64 r.rest.length) h
theorem c67n_mono (args : List D) (h : AHeap) (K K' : D → AHeap → Prop) (hk : ∀ d h, K d h → K' d h) (c : c67n args h K) : c67n args h K' := by
  obtain ⟨id, r, hE, hP, hK⟩ := c
  exact ⟨id, r, hE, hP, hk _ _ hK⟩
theorem c67n_ok (args : List D) (h : AHeap) (K : D → AHeap → Prop) (c : c67n args h K) : ACalls Tryd.prog 67 args h fun o h' => ∃ d, o = .ret d ∧ K d h' := by
  obtain ⟨id, r, rfl, hP, hK⟩ := c
  exact (left_c h id r hP).mono fun o h' ⟨d, hE1, hE2, hE3⟩ => ⟨d, hE1, by rw [hE2, hE3]; exact hK⟩

def tb67n : Tab := tb69n.addW 67 c67n c67n_mono
theorem tb67n_q : tb67n.q = tb69n.q := rfl
theorem tb67n_a : tb67n.a = tb69n.a := rfl
theorem tb67n_c (g : FuncId) (args : List D) (h : AHeap) (K E : D → AHeap → Prop) : tb67n.c g args h K E = if g = 67 then c67n args h K else tb69n.c g args h K E := rfl
theorem tb67n_ok : tb67n.ok Tryd.prog := Tab.addW_ok tb69n_ok c67n_ok
theorem tb67n_e : type_of% (And.intro (And.intro @tb67n_q (And.intro @tb67n_a @tb67n_c)) @tb69n_e) := (And.intro (And.intro @tb67n_q (And.intro @tb67n_a @tb67n_c)) @tb69n_e)

set_option maxHeartbeats 1000000 in
theorem readBytes_c (h : AHeap) (id : Nat) (r : Rd) (n : Int) (hid : h.f id = some (.cells (encR r))) : ACalls Tryd.prog 112 [.ptr id 1 0, .int .i64 n] h fun o h' => ∃ d, o = .ret d ∧ d = .str (rBytes n r).1 ∧ h' = h.set id (.cells (encR (rBytes n r).2)) := by
  refine ACalls.runF tb67n_ok st112n (by simp) ?_
  by_cases c1n : n < 0
  · have g1 : (n < 0) = True := eq_true c1n
    have l1 : ((rFail 1 r).rest.length : Int) < n ↔ False := by simp; omega
    have g2 : (n > ((rFail 1 r).rest.length : Int)) = False := eq_false (by omega)
    have e1 : (rFail 1 r).err ≠ 0 := by unfold rFail; split <;> simp_all
    have g3 : ((rFail 1 r).err != 0) = true := by simpa using e1
    have e2 : rBytes n r = ([], rFail 1 r) := by simp [rBytes, c1n, l1, e1]
    simp (config := {maxSteps := 1000000}) only [s112n, encR, hid, g1, tb100n_e, tb67n_e, i_callNe, Int.natCast_nonneg, Nat.le_refl, Int.le_refl, List.take_succ_cons, List.take_zero, decide_true, decide_false, Bool.and_false, Bool.false_and, zz, zzN, zzF, zzD, zzM, cond_true, cond_false, ↓reduceIte, Nat.reduceEqDiff, Nat.reduceBEq, Int.reduceLT, Int.reduceLE, Int.reduceToNat, Int.reduceEq, Int.reduceAdd, Int.reduceSub, Int.reduceMul, Int.reduceNeg, Nat.reduceMul, Nat.reduceSub, Nat.reduceLeDiff, Nat.reduceLT, Int.reduceGT, Int.reduceGE, Int.reduceBEq, Int.reduceBNe, reduceCtorEq, Nat.reduceAdd]
    refine ⟨id, r, 1, rfl, hid, ?_⟩
    rw [e2]
    generalize rFail 1 r = r1 at *
    simp (config := {maxSteps := 1000000}) only [encR, g2, g3, tb100n_e, tb67n_e, i_callNe, Int.natCast_nonneg, Nat.le_refl, Int.le_refl, List.take_succ_cons, List.take_zero, decide_true, decide_false, Bool.and_false, Bool.false_and, zz, zzN, zzF, zzD, zzM, cond_true, cond_false, ↓reduceIte, Nat.reduceEqDiff, Nat.reduceBEq, Int.reduceLT, Int.reduceLE, Int.reduceToNat, Int.reduceEq, Int.reduceAdd, Int.reduceSub, Int.reduceMul, Int.reduceNeg, Nat.reduceMul, Nat.reduceSub, Nat.reduceLeDiff, Nat.reduceLT, Int.reduceGT, Int.reduceGE, Int.reduceBEq, Int.reduceBNe, reduceCtorEq, Nat.reduceAdd]
    intro _
    exact ⟨_, AHeap.sub_refl _, rfl⟩
  · have g1 : (n < 0) = False := eq_false c1n
    by_cases c2n : (r.rest.length : Int) < n
    · have g2 : (n > (r.rest.length : Int)) = True := eq_true c2n
      have e1 : (rFail 4 r).err ≠ 0 := by unfold rFail; split <;> simp_all
      have g3 : ((rFail 4 r).err != 0) = true := by simpa using e1
      have e2 : rBytes n r = ([], rFail 4 r) := by simp [rBytes, c1n, c2n, e1]
      simp (config := {maxSteps := 1000000}) only [s112n, encR, hid, g1, g2, tb100n_e, tb67n_e, i_callNe, Int.natCast_nonneg, Nat.le_refl, Int.le_refl, List.take_succ_cons, List.take_zero, decide_true, decide_false, Bool.and_false, Bool.false_and, zz, zzN, zzF, zzD, zzM, cond_true, cond_false, ↓reduceIte, Nat.reduceEqDiff, Nat.reduceBEq, Int.reduceLT, Int.reduceLE, Int.reduceToNat, Int.reduceEq, Int.reduceAdd, Int.reduceSub, Int.reduceMul, Int.reduceNeg, Nat.reduceMul, Nat.reduceSub, Nat.reduceLeDiff, Nat.reduceLT, Int.reduceGT, Int.reduceGE, Int.reduceBEq, Int.reduceBNe, reduceCtorEq, Nat.reduceAdd]
      intro _
      refine ⟨id, r, 4, rfl, hid, ?_⟩
      rw [e2]
      generalize rFail 4 r = r1 at *
      simp (config := {maxSteps := 1000000}) only [encR, g3, tb100n_e, tb67n_e, i_callNe, Int.natCast_nonneg, Nat.le_refl, Int.le_refl, List.take_succ_cons, List.take_zero, decide_true, decide_false, Bool.and_false, Bool.false_and, zz, zzN, zzF, zzD, zzM, cond_true, cond_false, ↓reduceIte, Nat.reduceEqDiff, Nat.reduceBEq, Int.reduceLT, Int.reduceLE, Int.reduceToNat, Int.reduceEq, Int.reduceAdd, Int.reduceSub, Int.reduceMul, Int.reduceNeg, Nat.reduceMul, Nat.reduceSub, Nat.reduceLeDiff, Nat.reduceLT, Int.reduceGT, Int.reduceGE, Int.reduceBEq, Int.reduceBNe, reduceCtorEq, Nat.reduceAdd]
      exact ⟨_, AHeap.sub_refl _, rfl⟩
    · have g2 : (n > (r.rest.length : Int)) = False := eq_false (by omega)
      by_cases c3n : r.err = 0
      · have g3 : (r.err != 0) = false := by simpa using c3n
        have e2 : rBytes n r = (r.rest.take n.toNat, ⟨r.rest.drop n.toNat, IntKind.i64.wrap (r.took + n), 0⟩) := by simp [rBytes, c1n, c2n, c3n]
        rw [e2]
        obtain ⟨m, rfl⟩ := Int.eq_ofNat_of_zero_le (show 0 ≤ n by omega)
        have e4 : (r.rest.drop m).take (r.rest.length - m) = r.rest.drop m := List.take_of_length_le (by simp)
        simp (config := {maxSteps := 1000000}) only [s112n, encR, hid, g1, g2, g3, e4, tb100n_e, tb67n_e, i_callNe, Int.natCast_nonneg, Nat.le_refl, Int.le_refl, List.take_succ_cons, List.take_zero, decide_true, decide_false, Bool.and_false, Bool.false_and, zz, zzN, zzF, zzD, zzM, cond_true, cond_false, ↓reduceIte, Nat.reduceEqDiff, Nat.reduceBEq, Int.reduceLT, Int.reduceLE, Int.reduceToNat, Int.reduceEq, Int.reduceAdd, Int.reduceSub, Int.reduceMul, Int.reduceNeg, Nat.reduceMul, Nat.reduceSub, Nat.reduceLeDiff, Nat.reduceLT, Int.reduceGT, Int.reduceGE, Int.reduceBEq, Int.reduceBNe, reduceCtorEq, Nat.reduceAdd]
        intro _
        refine ⟨by omega, by omega, ?_⟩
        refine ⟨_, ?_, rfl⟩
        rw [c3n]
        exact AHeap.sub_refl _
      · have g3 : (r.err != 0) = true := by simpa using c3n
        have e2 : rBytes n r = ([], r) := by simp [rBytes, c1n, c2n, c3n]
        rw [e2]
        simp (config := {maxSteps := 1000000}) only [s112n, encR, hid, g1, g2, g3, tb100n_e, tb67n_e, i_callNe, Int.natCast_nonneg, Nat.le_refl, Int.le_refl, List.take_succ_cons, List.take_zero, decide_true, decide_false, Bool.and_false, Bool.false_and, zz, zzN, zzF, zzD, zzM, cond_true, cond_false, ↓reduceIte, Nat.reduceEqDiff, Nat.reduceBEq, Int.reduceLT, Int.reduceLE, Int.reduceToNat, Int.reduceEq, Int.reduceAdd, Int.reduceSub, Int.reduceMul, Int.reduceNeg, Nat.reduceMul, Nat.reduceSub, Nat.reduceLeDiff, Nat.reduceLT, Int.reduceGT, Int.reduceGE, Int.reduceBEq, Int.reduceBNe, reduceCtorEq, Nat.reduceAdd]
        intro _
        exact ⟨_, AHeap.sub_X (AHeap.subX_l hid AHeap.subX_refl), rfl⟩
def c112n (args : List D) (h : AHeap) (K : D → AHeap → Prop) : Prop := ∃ (id : Nat) (r : Rd) (n : Int), args = [.ptr id 1 0, .int .i64 n] ∧ (h.f id = some (.cells (encR r))) ∧ K (.str (rBytes n r).1) (h.set id (.cells (encR (rBytes n r).2)))
theorem c112n_mono (args : List D) (h : AHeap) (K K' : D → AHeap → Prop) (hk : ∀ d h, K d h → K' d h) (c : c112n args h K) : c112n args h K' := by
  obtain ⟨id, r, n, hE, hP, hK⟩ := c
  exact ⟨id, r, n, hE, hP, hk _ _ hK⟩
theorem c112n_ok (args : List D) (h : AHeap) (K : D → AHeap → Prop) (c : c112n args h K) : ACalls Tryd.prog 112 args h fun o h' => ∃ d, o = .ret d ∧ K d h' := by
  obtain ⟨id, r, n, rfl, hP, hK⟩ := c
  exact (readBytes_c h id r n hP).mono fun o h' ⟨d, hE1, hE2, hE3⟩ => ⟨d, hE1, by rw [hE2, hE3]; exact hK⟩

def tb112n : Tab := tb67n.addW 112 c112n c112n_mono
theorem tb112n_q : tb112n.q = tb67n.q := rfl
theorem tb112n_a : tb112n.a = tb67n.a := rfl
theorem tb112n_c (g : FuncId) (args : List D) (h : AHeap) (K E : D → AHeap → Prop) : tb112n.c g args h K E = if g = 112 then c112n args h K else tb67n.c g args h K E := rfl
theorem tb112n_ok : tb112n.ok Tryd.prog := Tab.addW_ok tb67n_ok c112n_ok
theorem tb112n_e : type_of% (And.intro (And.intro @tb112n_q (And.intro @tb112n_a @tb112n_c)) @tb67n_e) := (And.intro (And.intro @tb112n_q (And.intro @tb112n_a @tb112n_c)) @tb67n_e)

theorem rBytes_len (m : Nat) (r : Rd) : (rBytes m r).1.length ≤ m := by
  have key : ∀ r2 : Rd, (if r2.err = 0 then (r2.rest.take (m : Int).toNat, (⟨r2.rest.drop (m : Int).toNat, IntKind.i64.wrap (r2.took + m), 0⟩ : Rd)) else ([], r2)).1.length ≤ m := by
    intro r2
    split <;> simp <;> omega
  exact key _
set_option maxHeartbeats 1000000 in
theorem readNum_c (h : AHeap) (id : Nat) (r : Rd) (m : Nat) (hid : h.f id = some (.cells (encR r)) ∧ m ≤ 8) : ACalls Tryd.prog 95 [.ptr id 1 0, .int .i64 m] h fun o h' => ∃ d, o = .ret d ∧ d = .int .u64 ((rNumber m r).1 : Nat) ∧ h' = h.set id (.cells (encR (rNumber m r).2)) := by
  obtain ⟨hid, h8⟩ := hid
  refine ACalls.runF tb112n_ok st95n (by simp) ?_
  have g1 : ((m : Int) > 8) = False := eq_false (by omega)
  simp (config := {maxSteps := 1000000}) only [s95n, g1, tb100n_e, tb112n_e, i_callNe, Int.natCast_nonneg, Nat.le_refl, Int.le_refl, List.take_succ_cons, List.take_zero, decide_true, decide_false, Bool.and_false, Bool.false_and, zz, zzN, zzF, zzD, zzM, cond_true, cond_false, ↓reduceIte, Nat.reduceEqDiff, Nat.reduceBEq, Int.reduceLT, Int.reduceLE, Int.reduceToNat, Int.reduceEq, Int.reduceAdd, Int.reduceSub, Int.reduceMul, Int.reduceNeg, Nat.reduceMul, Nat.reduceSub, Nat.reduceLeDiff, Nat.reduceLT, Int.reduceGT, Int.reduceGE, Int.reduceBEq, Int.reduceBNe, reduceCtorEq, Nat.reduceAdd]
  refine ⟨id, r, m, rfl, hid, ?_⟩
  have hl := rBytes_len m r
  unfold rNumber
  generalize (rBytes (m : Int) r).1 = s at *
  generalize (rBytes (m : Int) r).2 = r2 at *
  simp (config := {maxSteps := 1000000}) only [tb100n_e, tb112n_e, i_callNe, Int.natCast_nonneg, Nat.le_refl, Int.le_refl, List.take_succ_cons, List.take_zero, decide_true, decide_false, Bool.and_false, Bool.false_and, zz, zzN, zzF, zzD, zzM, cond_true, cond_false, ↓reduceIte, Nat.reduceEqDiff, Nat.reduceBEq, Int.reduceLT, Int.reduceLE, Int.reduceToNat, Int.reduceEq, Int.reduceAdd, Int.reduceSub, Int.reduceMul, Int.reduceNeg, Nat.reduceMul, Nat.reduceSub, Nat.reduceLeDiff, Nat.reduceLT, Int.reduceGT, Int.reduceGE, Int.reduceBEq, Int.reduceBNe, reduceCtorEq, Nat.reduceAdd]
  intro _
  have hlt := unLe_lt s
  refine run_loop (X := Nat) (fun i => [(5, .int .u64 (unLe (s.take i) : Nat)), (6, .int .i64 (8 * i : Nat)), (16, .sl (encB s)), (17, .int .i64 s.length), (18, .int .i64 i)])
    (fun i => h.set id (.cells (encR r2))) (fun i => s.length - i) (fun i => i ≤ s.length) 0 (Nat.zero_le _) ?_ ?_ ?_
  · have e0 : unLe [] = 0 := rfl
    simp only [e0, Nat.mul_zero, i_callNe, Int.natCast_nonneg, Nat.le_refl, Int.le_refl, List.take_succ_cons, List.take_zero, decide_true, decide_false, Bool.and_false, Bool.false_and, zz, zzN, zzF, zzD, zzM, cond_true, cond_false, ↓reduceIte, Nat.reduceEqDiff, Nat.reduceBEq, Int.reduceLT, Int.reduceLE, Int.reduceToNat, Int.reduceEq, Int.reduceAdd, Int.reduceSub, Int.reduceMul, Int.reduceNeg, Nat.reduceMul, Nat.reduceSub, Nat.reduceLeDiff, Nat.reduceLT, Int.reduceGT, Int.reduceGE, Int.reduceBEq, Int.reduceBNe, reduceCtorEq, Nat.reduceAdd]
  · exact AHeap.sub_refl _
  intro i Q hi hQ
  by_cases h1 : i < s.length
  · have hb := (s.getD i 0).toNat_lt
    have e6 := shl_byte (b := (s.getD i 0).toNat) (i := i) (by omega) (by omega)
    have e7 : ((i : Int) < (s.length : Int)) = True := eq_true (by omega)
    have p1n := unLe_lt (s.take i)
    have p2n : (s.take i).length = i := by simp; omega
    rw [p2n] at p1n
    have p3n := unLe_lt (s.take (i + 1))
    have p4n : (s.take (i + 1)).length = i + 1 := by simp; omega
    rw [p4n] at p3n
    have p5n : 256 ^ (i + 1) ≤ 256 ^ 8 := Nat.pow_le_pow_right (by omega) (by omega)
    have p6n := unLe_take s i (by omega)
    have e8 := or_u64 (a := unLe (s.take i)) (b := (s.getD i 0).toNat * 256 ^ i) (by omega) (by omega)
    have e9 : 256 ^ i = 2 ^ (8 * i) := by rw [show (256 : Nat) = 2 ^ 8 from rfl, ← Nat.pow_mul]
    have e10 : unLe (s.take i) ||| (s.getD i 0).toNat * 256 ^ i = unLe (s.take (i + 1)) := by rw [p6n, e9]; exact or_add (by rw [← e9]; exact p1n)
    rw [e10] at e8
    have wi : IntKind.i64.wrap ((i : Int) + 1) = ((i + 1 : Nat) : Int) := wrap_succ (by omega)
    have w8 : IntKind.i64.wrap (((8 * i : Nat) : Int) + 8) = ((8 * (i + 1) : Nat) : Int) := by rw [wrap_i64 (by omega) (by omega)]; omega
    have l0 : (((8 * i : Nat) : Int) < 0) = False := eq_false (by omega)
    simp (config := {maxSteps := 1000000}) only [e6, e7, e8, wi, w8, l0, tb100n_e, tb112n_e, i_callNe, Int.natCast_nonneg, Nat.le_refl, Int.le_refl, List.take_succ_cons, List.take_zero, decide_true, decide_false, Bool.and_false, Bool.false_and, zz, zzN, zzF, zzD, zzM, cond_true, cond_false, ↓reduceIte, Nat.reduceEqDiff, Nat.reduceBEq, Int.reduceLT, Int.reduceLE, Int.reduceToNat, Int.reduceEq, Int.reduceAdd, Int.reduceSub, Int.reduceMul, Int.reduceNeg, Nat.reduceMul, Nat.reduceSub, Nat.reduceLeDiff, Nat.reduceLT, Int.reduceGT, Int.reduceGE, Int.reduceBEq, Int.reduceBNe, reduceCtorEq, Nat.reduceAdd]
    exact hQ (i + 1) _ _ (by omega) (by simp only [i_callNe, Int.natCast_nonneg, Nat.le_refl, Int.le_refl, List.take_succ_cons, List.take_zero, decide_true, decide_false, Bool.and_false, Bool.false_and, zz, zzN, zzF, zzD, zzM, cond_true, cond_false, ↓reduceIte, Nat.reduceEqDiff, Nat.reduceBEq, Int.reduceLT, Int.reduceLE, Int.reduceToNat, Int.reduceEq, Int.reduceAdd, Int.reduceSub, Int.reduceMul, Int.reduceNeg, Nat.reduceMul, Nat.reduceSub, Nat.reduceLeDiff, Nat.reduceLT, Int.reduceGT, Int.reduceGE, Int.reduceBEq, Int.reduceBNe, reduceCtorEq, Nat.reduceAdd]) (AHeap.sub_refl _) (by omega)
  · have e7 : ((i : Int) < (s.length : Int)) = False := eq_false (by omega)
    have hi2 : i = s.length := by omega
    subst hi2
    rw [List.take_length] at *
    simp (config := {maxSteps := 1000000}) only [e7, tb100n_e, tb112n_e, i_callNe, Int.natCast_nonneg, Nat.le_refl, Int.le_refl, List.take_succ_cons, List.take_zero, decide_true, decide_false, Bool.and_false, Bool.false_and, zz, zzN, zzF, zzD, zzM, cond_true, cond_false, ↓reduceIte, Nat.reduceEqDiff, Nat.reduceBEq, Int.reduceLT, Int.reduceLE, Int.reduceToNat, Int.reduceEq, Int.reduceAdd, Int.reduceSub, Int.reduceMul, Int.reduceNeg, Nat.reduceMul, Nat.reduceSub, Nat.reduceLeDiff, Nat.reduceLT, Int.reduceGT, Int.reduceGE, Int.reduceBEq, Int.reduceBNe, reduceCtorEq, Nat.reduceAdd]
    exact ⟨_, AHeap.sub_refl _, rfl⟩
def c95n (args : List D) (h : AHeap) (K : D → AHeap → Prop) : Prop := ∃ (id : Nat) (r : Rd) (m : Nat), args = [.ptr id 1 0, .int .i64 m] ∧ (h.f id = some (.cells (encR r)) ∧ m ≤ 8) ∧ K (.int .u64 ((rNumber m r).1 : Nat)) (h.set id (.cells (encR (rNumber m r).2)))
theorem c95n_mono (args : List D) (h : AHeap) (K K' : D → AHeap → Prop) (hk : ∀ d h, K d h → K' d h) (c : c95n args h K) : c95n args h K' := by
  obtain ⟨id, r, m, hE, hP, hK⟩ := c
  exact ⟨id, r, m, hE, hP, hk _ _ hK⟩
theorem c95n_ok (args : List D) (h : AHeap) (K : D → AHeap → Prop) (c : c95n args h K) : ACalls Tryd.prog 95 args h fun o h' => ∃ d, o = .ret d ∧ K d h' := by
  obtain ⟨id, r, m, rfl, hP, hK⟩ := c
  exact (readNum_c h id r m hP).mono fun o h' ⟨d, hE1, hE2, hE3⟩ => ⟨d, hE1, by rw [hE2, hE3]; exact hK⟩

def tb95n : Tab := tb112n.addW 95 c95n c95n_mono
theorem tb95n_q : tb95n.q = tb112n.q := rfl
theorem tb95n_a : tb95n.a = tb112n.a := rfl
theorem tb95n_c (g : FuncId) (args : List D) (h : AHeap) (K E : D → AHeap → Prop) : tb95n.c g args h K E = if g = 95 then c95n args h K else tb112n.c g args h K E := rfl
theorem tb95n_ok : tb95n.ok Tryd.prog := Tab.addW_ok tb112n_ok c95n_ok
theorem tb95n_e : type_of% (And.intro (And.intro @tb95n_q (And.intro @tb95n_a @tb95n_c)) @tb112n_e) := (And.intro (And.intro @tb95n_q (And.intro @tb95n_a @tb95n_c)) @tb112n_e)

theorem rNumber_lt (m : Nat) (r : Rd) : (rNumber m r).1 < 256 ^ m := by
  unfold rNumber
  have h1 := unLe_lt (rBytes m r).1
  have h2 : 256 ^ (rBytes m r).1.length ≤ 256 ^ m := Nat.pow_le_pow_right (by omega) (rBytes_len m r)
  simp only
  omega
theorem count_c (h : AHeap) (id : Nat) (r : Rd) (most : Nat) (hid : h.f id = some (.cells (encR r)) ∧ most < 9223372036854775808) : ACalls Tryd.prog 113 [.ptr id 1 0, .int .i64 most] h fun o h' => ∃ d, o = .ret d ∧ d = .int .i64 (rCount most r).1 ∧ h' = h.set id (.cells (encR (rCount most r).2)) := by
  obtain ⟨hid, hm⟩ := hid
  refine ACalls.runF tb95n_ok st113n (by simp) ?_
  simp (config := {maxSteps := 1000000}) only [s113n, tb100n_e, tb95n_e, i_callNe, Int.natCast_nonneg, Nat.le_refl, Int.le_refl, List.take_succ_cons, List.take_zero, decide_true, decide_false, Bool.and_false, Bool.false_and, zz, zzN, zzF, zzD, zzM, cond_true, cond_false, ↓reduceIte, Nat.reduceEqDiff, Nat.reduceBEq, Int.reduceLT, Int.reduceLE, Int.reduceToNat, Int.reduceEq, Int.reduceAdd, Int.reduceSub, Int.reduceMul, Int.reduceNeg, Nat.reduceMul, Nat.reduceSub, Nat.reduceLeDiff, Nat.reduceLT, Int.reduceGT, Int.reduceGE, Int.reduceBEq, Int.reduceBNe, reduceCtorEq, Nat.reduceAdd]
  refine ⟨id, r, 4, rfl, ⟨hid, by omega⟩, ?_⟩
  have hn := rNumber_lt 4 r
  have h256 : 256 ^ 4 = 4294967296 := rfl
  unfold rCount
  have e4 : rNumber 4 r = rNumber ((4 : Nat) : Int) r := rfl
  rw [e4]
  generalize rNumber ((4 : Nat) : Int) r = nr at *
  obtain ⟨n, r1⟩ := nr
  simp only at hn ⊢
  have w1 : IntKind.u64.wrap (most : Int) = most := wrap_u64 (by omega) (by omega)
  have w2 : IntKind.i64.wrap (n : Int) = n := by rw [wrap_i64 (by omega) (by omega)]
  have g0 : ((most : Int) < 0) = False := eq_false (by omega)
  by_cases c : most < n
  · have g1 : ((n : Int) > (most : Int)) = True := eq_true (by omega)
    have g2 : ((most : Int) < 0 ∨ (most : Int) < (n : Int)) := by omega
    rw [if_pos g2]
    simp (config := {maxSteps := 1000000}) only [g0, g1, w1, tb100n_e, tb95n_e, i_callNe, Int.natCast_nonneg, Nat.le_refl, Int.le_refl, List.take_succ_cons, List.take_zero, decide_true, decide_false, Bool.and_false, Bool.false_and, zz, zzN, zzF, zzD, zzM, cond_true, cond_false, ↓reduceIte, Nat.reduceEqDiff, Nat.reduceBEq, Int.reduceLT, Int.reduceLE, Int.reduceToNat, Int.reduceEq, Int.reduceAdd, Int.reduceSub, Int.reduceMul, Int.reduceNeg, Nat.reduceMul, Nat.reduceSub, Nat.reduceLeDiff, Nat.reduceLT, Int.reduceGT, Int.reduceGE, Int.reduceBEq, Int.reduceBNe, reduceCtorEq, Nat.reduceAdd]
    refine ⟨id, r1, 3, rfl, by simp, ?_⟩
    simp (config := {maxSteps := 1000000}) only [tb100n_e, tb95n_e, i_callNe, Int.natCast_nonneg, Nat.le_refl, Int.le_refl, List.take_succ_cons, List.take_zero, decide_true, decide_false, Bool.and_false, Bool.false_and, zz, zzN, zzF, zzD, zzM, cond_true, cond_false, ↓reduceIte, Nat.reduceEqDiff, Nat.reduceBEq, Int.reduceLT, Int.reduceLE, Int.reduceToNat, Int.reduceEq, Int.reduceAdd, Int.reduceSub, Int.reduceMul, Int.reduceNeg, Nat.reduceMul, Nat.reduceSub, Nat.reduceLeDiff, Nat.reduceLT, Int.reduceGT, Int.reduceGE, Int.reduceBEq, Int.reduceBNe, reduceCtorEq, Nat.reduceAdd]
    exact ⟨_, AHeap.sub_refl _, rfl⟩
  · have g1 : ((n : Int) > (most : Int)) = False := eq_false (by omega)
    have g2 : ¬ ((most : Int) < 0 ∨ (most : Int) < (n : Int)) := by omega
    rw [if_neg g2]
    simp (config := {maxSteps := 1000000}) only [g0, g1, w1, w2, tb100n_e, tb95n_e, i_callNe, Int.natCast_nonneg, Nat.le_refl, Int.le_refl, List.take_succ_cons, List.take_zero, decide_true, decide_false, Bool.and_false, Bool.false_and, zz, zzN, zzF, zzD, zzM, cond_true, cond_false, ↓reduceIte, Nat.reduceEqDiff, Nat.reduceBEq, Int.reduceLT, Int.reduceLE, Int.reduceToNat, Int.reduceEq, Int.reduceAdd, Int.reduceSub, Int.reduceMul, Int.reduceNeg, Nat.reduceMul, Nat.reduceSub, Nat.reduceLeDiff, Nat.reduceLT, Int.reduceGT, Int.reduceGE, Int.reduceBEq, Int.reduceBNe, reduceCtorEq, Nat.reduceAdd]
    exact ⟨_, AHeap.sub_refl _, rfl⟩
def c113n (args : List D) (h : AHeap) (K : D → AHeap → Prop) : Prop := ∃ (id : Nat) (r : Rd) (most : Nat), args = [.ptr id 1 0, .int .i64 most] ∧ (h.f id = some (.cells (encR r)) ∧ most < 9223372036854775808) ∧ K (.int .i64 (rCount most r).1) (h.set id (.cells (encR (rCount most r).2)))
theorem c113n_mono (args : List D) (h : AHeap) (K K' : D → AHeap → Prop) (hk : ∀ d h, K d h → K' d h) (c : c113n args h K) : c113n args h K' := by
  obtain ⟨id, r, most, hE, hP, hK⟩ := c
  exact ⟨id, r, most, hE, hP, hk _ _ hK⟩
theorem c113n_ok (args : List D) (h : AHeap) (K : D → AHeap → Prop) (c : c113n args h K) : ACalls Tryd.prog 113 args h fun o h' => ∃ d, o = .ret d ∧ K d h' := by
  obtain ⟨id, r, most, rfl, hP, hK⟩ := c
  exact (count_c h id r most hP).mono fun o h' ⟨d, hE1, hE2, hE3⟩ => ⟨d, hE1, by rw [hE2, hE3]; exact hK⟩

def tb113n : Tab := tb95n.addW 113 c113n c113n_mono
theorem tb113n_q : tb113n.q = tb95n.q := rfl
theorem tb113n_a : tb113n.a = tb95n.a := rfl
theorem tb113n_c (g : FuncId) (args : List D) (h : AHeap) (K E : D → AHeap → Prop) : tb113n.c g args h K E = if g = 113 then c113n args h K else tb95n.c g args h K E := rfl
theorem tb113n_ok : tb113n.ok Tryd.prog := Tab.addW_ok tb95n_ok c113n_ok
theorem tb113n_e : type_of% (And.intro (And.intro @tb113n_q (And.intro @tb113n_a @tb113n_c)) @tb95n_e) := (And.intro (And.intro @tb113n_q (And.intro @tb113n_a @tb113n_c)) @tb95n_e)

theorem text_c (h : AHeap) (id : Nat) (r : Rd) (most : Nat) (hid : h.f id = some (.cells (encR r)) ∧ most < 9223372036854775808) : ACalls Tryd.prog 96 [.ptr id 1 0, .int .i64 most] h fun o h' => ∃ d, o = .ret d ∧ d = .str (rText most r).1 ∧ h' = h.set id (.cells (encR (rText most r).2)) := by
  obtain ⟨hid, hm⟩ := hid
  refine ACalls.runF tb113n_ok st96n (by simp) ?_
  simp (config := {maxSteps := 1000000}) only [s96n, tb100n_e, tb113n_e, i_callNe, Int.natCast_nonneg, Nat.le_refl, Int.le_refl, List.take_succ_cons, List.take_zero, decide_true, decide_false, Bool.and_false, Bool.false_and, zz, zzN, zzF, zzD, zzM, cond_true, cond_false, ↓reduceIte, Nat.reduceEqDiff, Nat.reduceBEq, Int.reduceLT, Int.reduceLE, Int.reduceToNat, Int.reduceEq, Int.reduceAdd, Int.reduceSub, Int.reduceMul, Int.reduceNeg, Nat.reduceMul, Nat.reduceSub, Nat.reduceLeDiff, Nat.reduceLT, Int.reduceGT, Int.reduceGE, Int.reduceBEq, Int.reduceBNe, reduceCtorEq, Nat.reduceAdd]
  refine ⟨id, r, most, rfl, ⟨hid, hm⟩, ?_⟩
  unfold rText
  generalize rCount (most : Int) r = nr at *
  obtain ⟨n, r1⟩ := nr
  simp (config := {maxSteps := 1000000}) only [tb100n_e, tb113n_e, i_callNe, Int.natCast_nonneg, Nat.le_refl, Int.le_refl, List.take_succ_cons, List.take_zero, decide_true, decide_false, Bool.and_false, Bool.false_and, zz, zzN, zzF, zzD, zzM, cond_true, cond_false, ↓reduceIte, Nat.reduceEqDiff, Nat.reduceBEq, Int.reduceLT, Int.reduceLE, Int.reduceToNat, Int.reduceEq, Int.reduceAdd, Int.reduceSub, Int.reduceMul, Int.reduceNeg, Nat.reduceMul, Nat.reduceSub, Nat.reduceLeDiff, Nat.reduceLT, Int.reduceGT, Int.reduceGE, Int.reduceBEq, Int.reduceBNe, reduceCtorEq, Nat.reduceAdd]
  refine ⟨id, r1, n, rfl, by simp, ?_⟩
  simp (config := {maxSteps := 1000000}) only [tb100n_e, tb113n_e, i_callNe, Int.natCast_nonneg, Nat.le_refl, Int.le_refl, List.take_succ_cons, List.take_zero, decide_true, decide_false, Bool.and_false, Bool.false_and, zz, zzN, zzF, zzD, zzM, cond_true, cond_false, ↓reduceIte, Nat.reduceEqDiff, Nat.reduceBEq, Int.reduceLT, Int.reduceLE, Int.reduceToNat, Int.reduceEq, Int.reduceAdd, Int.reduceSub, Int.reduceMul, Int.reduceNeg, Nat.reduceMul, Nat.reduceSub, Nat.reduceLeDiff, Nat.reduceLT, Int.reduceGT, Int.reduceGE, Int.reduceBEq, Int.reduceBNe, reduceCtorEq, Nat.reduceAdd]
  exact ⟨_, AHeap.sub_refl _, rfl⟩
def c96n (args : List D) (h : AHeap) (K : D → AHeap → Prop) : Prop := ∃ (id : Nat) (r : Rd) (most : Nat), args = [.ptr id 1 0, .int .i64 most] ∧ (h.f id = some (.cells (encR r)) ∧ most < 9223372036854775808) ∧ K (.str (rText most r).1) (h.set id (.cells (encR (rText most r).2)))
theorem c96n_mono (args : List D) (h : AHeap) (K K' : D → AHeap → Prop) (hk : ∀ d h, K d h → K' d h) (c : c96n args h K) : c96n args h K' := by
  obtain ⟨id, r, most, hE, hP, hK⟩ := c
  exact ⟨id, r, most, hE, hP, hk _ _ hK⟩
theorem c96n_ok (args : List D) (h : AHeap) (K : D → AHeap → Prop) (c : c96n args h K) : ACalls Tryd.prog 96 args h fun o h' => ∃ d, o = .ret d ∧ K d h' := by
  obtain ⟨id, r, most, rfl, hP, hK⟩ := c
  exact (text_c h id r most hP).mono fun o h' ⟨d, hE1, hE2, hE3⟩ => ⟨d, hE1, by rw [hE2, hE3]; exact hK⟩

def tb96n : Tab := tb113n.addW 96 c96n c96n_mono
theorem tb96n_q : tb96n.q = tb113n.q := rfl
theorem tb96n_a : tb96n.a = tb113n.a := rfl
theorem tb96n_c (g : FuncId) (args : List D) (h : AHeap) (K E : D → AHeap → Prop) : tb96n.c g args h K E = if g = 96 then c96n args h K else tb113n.c g args h K E := rfl
theorem tb96n_ok : tb96n.ok Tryd.prog := Tab.addW_ok tb113n_ok c96n_ok
theorem tb96n_e : type_of% (And.intro (And.intro @tb96n_q (And.intro @tb96n_a @tb96n_c)) @tb113n_e) := (And.intro (And.intro @tb96n_q (And.intro @tb96n_a @tb96n_c)) @tb113n_e)

theorem end_c (h : AHeap) (id : Nat) (r : Rd) (hid : h.f id = some (.cells (encR r))) : ACalls Tryd.prog 38 [.ptr id 1 0] h fun o h' => ∃ d, o = .ret d ∧ d = .int .i64 (rEnd r).err ∧ h' = h.set id (.cells (encR (rEnd r))) := by
  refine ACalls.runF tb96n_ok st38n (by simp) ?_
  simp (config := {maxSteps := 1000000}) only [s38n, tb100n_e, tb96n_e, i_callNe, Int.natCast_nonneg, Nat.le_refl, Int.le_refl, List.take_succ_cons, List.take_zero, decide_true, decide_false, Bool.and_false, Bool.false_and, zz, zzN, zzF, zzD, zzM, cond_true, cond_false, ↓reduceIte, Nat.reduceEqDiff, Nat.reduceBEq, Int.reduceLT, Int.reduceLE, Int.reduceToNat, Int.reduceEq, Int.reduceAdd, Int.reduceSub, Int.reduceMul, Int.reduceNeg, Nat.reduceMul, Nat.reduceSub, Nat.reduceLeDiff, Nat.reduceLT, Int.reduceGT, Int.reduceGE, Int.reduceBEq, Int.reduceBNe, reduceCtorEq, Nat.reduceAdd]
  refine ⟨id, r, rfl, hid, ?_⟩
  unfold rEnd
  by_cases c : 0 < r.rest.length
  · have g : ((r.rest.length : Int) > 0) = True := eq_true (by omega)
    rw [if_pos c]
    simp (config := {maxSteps := 1000000}) only [g, tb100n_e, tb96n_e, i_callNe, Int.natCast_nonneg, Nat.le_refl, Int.le_refl, List.take_succ_cons, List.take_zero, decide_true, decide_false, Bool.and_false, Bool.false_and, zz, zzN, zzF, zzD, zzM, cond_true, cond_false, ↓reduceIte, Nat.reduceEqDiff, Nat.reduceBEq, Int.reduceLT, Int.reduceLE, Int.reduceToNat, Int.reduceEq, Int.reduceAdd, Int.reduceSub, Int.reduceMul, Int.reduceNeg, Nat.reduceMul, Nat.reduceSub, Nat.reduceLeDiff, Nat.reduceLT, Int.reduceGT, Int.reduceGE, Int.reduceBEq, Int.reduceBNe, reduceCtorEq, Nat.reduceAdd]
    refine ⟨id, r, 5, rfl, hid, ?_⟩
    simp (config := {maxSteps := 1000000}) only [tb100n_e, tb96n_e, i_callNe, Int.natCast_nonneg, Nat.le_refl, Int.le_refl, List.take_succ_cons, List.take_zero, decide_true, decide_false, Bool.and_false, Bool.false_and, zz, zzN, zzF, zzD, zzM, cond_true, cond_false, ↓reduceIte, Nat.reduceEqDiff, Nat.reduceBEq, Int.reduceLT, Int.reduceLE, Int.reduceToNat, Int.reduceEq, Int.reduceAdd, Int.reduceSub, Int.reduceMul, Int.reduceNeg, Nat.reduceMul, Nat.reduceSub, Nat.reduceLeDiff, Nat.reduceLT, Int.reduceGT, Int.reduceGE, Int.reduceBEq, Int.reduceBNe, reduceCtorEq, Nat.reduceAdd]
    refine ⟨id, rFail 5 r, rfl, by simp, ?_⟩
    simp (config := {maxSteps := 1000000}) only [tb100n_e, tb96n_e, i_callNe, Int.natCast_nonneg, Nat.le_refl, Int.le_refl, List.take_succ_cons, List.take_zero, decide_true, decide_false, Bool.and_false, Bool.false_and, zz, zzN, zzF, zzD, zzM, cond_true, cond_false, ↓reduceIte, Nat.reduceEqDiff, Nat.reduceBEq, Int.reduceLT, Int.reduceLE, Int.reduceToNat, Int.reduceEq, Int.reduceAdd, Int.reduceSub, Int.reduceMul, Int.reduceNeg, Nat.reduceMul, Nat.reduceSub, Nat.reduceLeDiff, Nat.reduceLT, Int.reduceGT, Int.reduceGE, Int.reduceBEq, Int.reduceBNe, reduceCtorEq, Nat.reduceAdd]
    exact ⟨_, AHeap.sub_refl _, rfl⟩
  · have g : ((r.rest.length : Int) > 0) = False := eq_false (by omega)
    rw [if_neg c]
    simp (config := {maxSteps := 1000000}) only [g, tb100n_e, tb96n_e, i_callNe, Int.natCast_nonneg, Nat.le_refl, Int.le_refl, List.take_succ_cons, List.take_zero, decide_true, decide_false, Bool.and_false, Bool.false_and, zz, zzN, zzF, zzD, zzM, cond_true, cond_false, ↓reduceIte, Nat.reduceEqDiff, Nat.reduceBEq, Int.reduceLT, Int.reduceLE, Int.reduceToNat, Int.reduceEq, Int.reduceAdd, Int.reduceSub, Int.reduceMul, Int.reduceNeg, Nat.reduceMul, Nat.reduceSub, Nat.reduceLeDiff, Nat.reduceLT, Int.reduceGT, Int.reduceGE, Int.reduceBEq, Int.reduceBNe, reduceCtorEq, Nat.reduceAdd]
    refine ⟨id, r, rfl, hid, ?_⟩
    simp (config := {maxSteps := 1000000}) only [tb100n_e, tb96n_e, i_callNe, Int.natCast_nonneg, Nat.le_refl, Int.le_refl, List.take_succ_cons, List.take_zero, decide_true, decide_false, Bool.and_false, Bool.false_and, zz, zzN, zzF, zzD, zzM, cond_true, cond_false, ↓reduceIte, Nat.reduceEqDiff, Nat.reduceBEq, Int.reduceLT, Int.reduceLE, Int.reduceToNat, Int.reduceEq, Int.reduceAdd, Int.reduceSub, Int.reduceMul, Int.reduceNeg, Nat.reduceMul, Nat.reduceSub, Nat.reduceLeDiff, Nat.reduceLT, Int.reduceGT, Int.reduceGE, Int.reduceBEq, Int.reduceBNe, reduceCtorEq, Nat.reduceAdd]
    exact ⟨_, AHeap.sub_X (AHeap.subX_l hid AHeap.subX_refl), rfl⟩
def c38n (args : List D) (h : AHeap) (K : D → AHeap → Prop) : Prop := ∃ (id : Nat) (r : Rd), args = [.ptr id 1 0] ∧ (h.f id = some (.cells (encR r))) ∧ K (.int .i64 (rEnd r).err) (h.set id (.cells (encR (rEnd r))))
theorem c38n_mono (args : List D) (h : AHeap) (K K' : D → AHeap → Prop) (hk : ∀ d h, K d h → K' d h) (c : c38n args h K) : c38n args h K' := by
  obtain ⟨id, r, hE, hP, hK⟩ := c
  exact ⟨id, r, hE, hP, hk _ _ hK⟩
theorem c38n_ok (args : List D) (h : AHeap) (K : D → AHeap → Prop) (c : c38n args h K) : ACalls Tryd.prog 38 args h fun o h' => ∃ d, o = .ret d ∧ K d h' := by
  obtain ⟨id, r, rfl, hP, hK⟩ := c
  exact (end_c h id r hP).mono fun o h' ⟨d, hE1, hE2, hE3⟩ => ⟨d, hE1, by rw [hE2, hE3]; exact hK⟩

def tb38n : Tab := tb96n.addW 38 c38n c38n_mono
theorem tb38n_q : tb38n.q = tb96n.q := rfl
theorem tb38n_a : tb38n.a = tb96n.a := rfl
theorem tb38n_c (g : FuncId) (args : List D) (h : AHeap) (K E : D → AHeap → Prop) : tb38n.c g args h K E = if g = 38 then c38n args h K else tb96n.c g args h K E := rfl
theorem tb38n_ok : tb38n.ok Tryd.prog := Tab.addW_ok tb96n_ok c38n_ok
theorem tb38n_e : type_of% (And.intro (And.intro @tb38n_q (And.intro @tb38n_a @tb38n_c)) @tb96n_e) := (And.intro (And.intro @tb38n_q (And.intro @tb38n_a @tb38n_c)) @tb96n_e)

end Go.Proofs.YthpgepillaeldaaDoor.Zz
/- Trees: their data. -/
namespace Go.Proofs.YthpgepillaeldaaDoor.Zz
set_option linter.unusedVariables false
set_option linter.unusedSimpArgs false
/-- A node: its kind, its type, its text, its number, its kids. -/
inductive Nd where
  | mk (k t : Int) (s : List UInt8) (n : Int) (l : List Nd)
mutual
def Nd.enc : Nd → List D
  | .mk k t s n l => [.int .i64 k, .int .i64 t, .str s, .int .i64 n, .sl (Nd.encs l)]
def Nd.encs : List Nd → List (List D)
  | [] => []
  | x :: l => Nd.enc x :: Nd.encs l
end
mutual
def Nd.cnt : Nd → Nat
  | .mk k t s n l => 1 + Nd.cnts l
def Nd.cnts : List Nd → Nat
  | [] => 0
  | x :: l => Nd.cnt x + Nd.cnts l
end
theorem enc_mk (k t : Int) (s : List UInt8) (n : Int) (l : List Nd) : Nd.enc (.mk k t s n l) = [.int .i64 k, .int .i64 t, .str s, .int .i64 n, .sl (Nd.encs l)] := by rw [Nd.enc]
theorem encs_nil : Nd.encs [] = [] := by rw [Nd.encs]
theorem encs_cons (x : Nd) (l : List Nd) : Nd.encs (x :: l) = Nd.enc x :: Nd.encs l := by rw [Nd.encs]
theorem encs_map : ∀ l : List Nd, Nd.encs l = l.map Nd.enc
  | [] => by rw [encs_nil]; rfl
  | x :: l => by rw [encs_cons, encs_map l]; rfl
theorem cnt_mk (k t : Int) (s : List UInt8) (n : Int) (l : List Nd) : Nd.cnt (.mk k t s n l) = 1 + Nd.cnts l := by rw [Nd.cnt]
theorem cnts_nil : Nd.cnts [] = 0 := by rw [Nd.cnts]
theorem cnts_cons (x : Nd) (l : List Nd) : Nd.cnts (x :: l) = Nd.cnt x + Nd.cnts l := by rw [Nd.cnts]
theorem cnt_pos (x : Nd) : 0 < x.cnt := by cases x; rw [cnt_mk]; omega
theorem cnts_mem : ∀ {l : List Nd} {x : Nd}, x ∈ l → x.cnt ≤ Nd.cnts l
  | y :: l, x, h => by
    rw [cnts_cons]
    rcases List.mem_cons.1 h with e | e
    · rw [e]; omega
    · have := cnts_mem e; omega
theorem cnt_kid {k t : Int} {s : List UInt8} {n : Int} {l : List Nd} {x : Nd} (h : x ∈ l) : x.cnt < Nd.cnt (.mk k t s n l) := by
  rw [cnt_mk]
  have := cnts_mem h
  omega
theorem cnts_app (l r : List Nd) : Nd.cnts (l ++ r) = Nd.cnts l + Nd.cnts r := by
  induction l with
  | nil => rw [List.nil_append, cnts_nil]; omega
  | cons x l ih => rw [List.cons_append, cnts_cons, cnts_cons, ih]; omega
theorem len_enc (x : Nd) : x.enc.length = 5 := by cases x; rw [enc_mk]; rfl
theorem enc_ok (x : Nd) : x.enc.all cellOk = true := by cases x; rw [enc_mk]; rfl
theorem enc_unnil (x : Nd) : x.enc.map unnil = x.enc := by cases x; rw [enc_mk]; rfl
theorem len_encs (l : List Nd) : (Nd.encs l).length = l.length := by rw [encs_map, List.length_map]
theorem encs_get {l : List Nd} {i : Nat} {x : Nd} (h : l[i]? = some x) : (Nd.encs l)[i]? = some x.enc := by rw [encs_map, List.getElem?_map, h]; rfl
theorem encs_app (l r : List Nd) : Nd.encs (l ++ r) = Nd.encs l ++ Nd.encs r := by rw [encs_map, encs_map, encs_map, List.map_append]
theorem encs_snoc (l : List Nd) (x : Nd) : Nd.encs l ++ [x.enc] = Nd.encs (l ++ [x]) := by rw [encs_app, encs_cons, encs_nil]
theorem encs_ne {l : List Nd} : l ≠ [] → Nd.encs l ≠ [] := by
  intro h e
  apply h
  have := congrArg List.length e
  rw [len_encs] at this
  simpa using this
/-- Trees are by their size: what holds of all smaller ones holds of each. -/
theorem Nd.ind {P : Nd → Prop} (h : ∀ x, (∀ y : Nd, y.cnt < x.cnt → P y) → P x) (x : Nd) : P x := by
  have key : ∀ n, ∀ x : Nd, x.cnt ≤ n → P x := by
    intro n
    induction n with
    | zero => intro x hx; have := cnt_pos x; omega
    | succ n ih => intro x hx; exact h x fun y hy => ih y (by omega)
  exact key _ x (Nat.le_refl _)
theorem map_inj_of {α β : Type} {f : α → β} : ∀ {l r : List α}, (∀ x ∈ l, ∀ y, f x = f y → x = y) → l.map f = r.map f → l = r
  | [], [], _, _ => rfl
  | [], _ :: _, _, h => by cases h
  | _ :: _, [], _, h => by cases h
  | x :: l, y :: r, hf, h => by
    simp only [List.map_cons, List.cons.injEq] at h
    rw [hf x (by simp) y h.1, map_inj_of (fun z hz => hf z (by simp [hz])) h.2]
theorem enc_inj : ∀ x y : Nd, x.enc = y.enc → x = y := by
  intro x
  induction x using Nd.ind with
  | h x ih =>
    intro y e
    obtain ⟨k, t, s, n, l⟩ := x
    obtain ⟨k', t', s', n', l'⟩ := y
    rw [enc_mk, enc_mk] at e
    simp only [List.cons.injEq, D.int.injEq, D.str.injEq, D.sl.injEq, true_and, and_true] at e
    obtain ⟨rfl, rfl, rfl, rfl, e⟩ := e
    rw [encs_map, encs_map] at e
    rw [map_inj_of (fun x hx y => ih x (cnt_kid hx) y) e]
open Classical in
noncomputable def decN (ds : List D) : Option Nd := if h : ∃ x : Nd, x.enc = ds then some (Classical.choose h) else none
theorem decN_enc (x : Nd) : decN x.enc = some x := by
  unfold decN
  rw [dif_pos ⟨x, rfl⟩]
  congr 1
  exact enc_inj _ _ (Classical.choose_spec (⟨x, rfl⟩ : ∃ y : Nd, y.enc = x.enc))
theorem decN_some {ds : List D} {x : Nd} (h : decN ds = some x) : ds = x.enc := by
  unfold decN at h
  split at h
  · rename_i hx
    cases h
    exact (Classical.choose_spec hx).symm
  · cases h
theorem encs_inj {l r : List Nd} (h : Nd.encs l = Nd.encs r) : l = r := by
  rw [encs_map, encs_map] at h
  exact map_inj_of (fun x _ y => enc_inj x y) h
open Classical in
noncomputable def decNs (ds : List (List D)) : Option (List Nd) := if h : ∃ x : List Nd, Nd.encs x = ds then some (Classical.choose h) else none
theorem decNs_enc (x : List Nd) : decNs (Nd.encs x) = some x := by
  unfold decNs
  rw [dif_pos ⟨x, rfl⟩]
  congr 1
  exact encs_inj (Classical.choose_spec (⟨x, rfl⟩ : ∃ y : List Nd, Nd.encs y = Nd.encs x))
theorem decNs_some {ds : List (List D)} {x : List Nd} (h : decNs ds = some x) : ds = Nd.encs x := by
  unfold decNs at h
  split at h
  · rename_i hx
    cases h
    exact (Classical.choose_spec hx).symm
  · cases h
/-- A kid of a slice of kids. -/
theorem askE_encs {K : D → AHeap → Prop} {h : AHeap} {l : List Nd} {i : Nat} {x : Nd} (e : l[i]? = some x) : askE 5 K h (Nd.encs l) (i : Int) = K (.eptr x.enc 0) h := by
  have h1 := (List.getElem?_eq_some_iff.1 e).1
  have h2 : (0 ≤ (i : Int) ∧ (i : Int) < ((Nd.encs l).length : Int)) := by rw [len_encs]; omega
  simp only [askE, h2, Int.toNat_natCast, encs_get e, Option.some.injEq]
  apply propext
  constructor
  · intro k; exact (k.2 _ rfl).2
  · intro k; exact ⟨by simp, fun y hy => by rw [← hy]; exact ⟨len_enc x, k⟩⟩
theorem part_enc (x : Nd) : partD x.enc 0 (some 5) = some (.agg x.enc) := by
  have := len_enc x
  simp only [partD, List.drop_zero]
  rw [if_pos (by omega), List.take_of_length_le (by omega)]
theorem ownH_f {h : AHeap} {r sz i : Nat} {xs : List (List D)} (hne : xs ≠ [] → r ≠ i) : (ownH h r sz xs).f i = h.f i := by
  unfold ownH
  split
  · rfl
  · rename_i h0
    rw [AHeap.set_f, if_neg (fun e => hne h0 e.symm)]
theorem ownH_r {h : AHeap} {r sz : Nat} {xs : List (List D)} (h0 : xs ≠ []) : (ownH h r sz xs).f r = some (.row sz (xs.length + 2) xs false) := by
  unfold ownH
  rw [if_neg h0, AHeap.set_f, if_pos rfl]
/-- One more element behind a slice that begins as nil. -/
theorem app_own {sz b r : Nat} {xs : List (List D)} {y : List D} {h : AHeap} {K : D → AHeap → Prop} (hr : xs ≠ [] → h.f r = some (.row sz (xs.length + 2) xs false)) (hy : y.length = sz ∧ y.all cellOk = true) (hb : 0 < b) (hn : (xs.length + 1) * b ≤ 140737488355328)
    (hk : ∀ r', (xs = [] → h.f r' = none) → (xs ≠ [] → r' = r) → K (ownD r' (xs.length + 1)) (h.set r' (.row sz (xs.length + 1 + 2) (xs ++ [y]) false))) : appK sz b (ownD r xs.length) h K (some [y]) := by
  by_cases h0 : xs = []
  · subst h0
    rw [List.length_nil, ownD_zero, app_nil]
    refine ⟨by simpa using hy, hb, by simp, by simpa using hn, fun _ id hid => ?_⟩
    have := hk id (fun _ => hid) (fun h => absurd rfl h)
    simpa [ownD] using this
  · have hl : xs.length ≠ 0 := fun h => h0 (List.length_eq_zero_iff.1 h)
    rw [ownD_pos hl, app_row, hr h0, appR_row]
    refine ⟨by simpa using hy, hb, rfl, rfl, rfl, rfl, by simpa using hn, ?_⟩
    have := hk r (fun h => absurd h h0) (fun _ => rfl)
    rw [ownD_pos (by omega)] at this
    have e : xs.length + 2 + [y].length = xs.length + 1 + 2 := by simp
    rw [e]
    exact this
end Go.Proofs.YthpgepillaeldaaDoor.Zz
