/- Contracts: a digest is written, and told. -/
import Derived.Test.YtiilnakenlegmaaZK8
namespace Go.Proofs.Ytiilnakenlegmaa.Zz
set_option linter.unusedVariables false
set_option linter.unusedSimpArgs false
set_option maxRecDepth 20000
def p15 : Plan := ⟨⟨[], [(4, 2)], [], [], [], []⟩, []⟩
/-- (*cupel/sha.Digest).Write (2 parameters, 0 captured) -/
def s15 : Stm :=
  .seq (.seq (.ops [⟨.mov (.t 0), (some 6), none, true⟩,
      ⟨.eql .ptr false (.t 6) (.c .nilptr), (some 7), none, true⟩])
   (.cond (.t 7)
    (.ret)
    (.skip)))
  (.seq (.ops [⟨.mov (.t 1), (some 8), none, true⟩,
     ⟨.conv .strBytes (.t 8), (some 9), none, true⟩,
     ⟨.len .sl (.t 9), (some 10), none, false⟩,
     ⟨.mov (.c (.int .i64 0)), (some 11), none, true⟩])
  (.block 0 (.loop (.seq (.ops [⟨.bin .lss (.t 11) (.t 10), (some 12), none, true⟩])
    (.seq (.cond (.t 12)
      (.skip)
      (.exit 0))
    (.seq (.block 1 (.seq (.ops [⟨.indexAddrS 1 (.t 9) (.t 11), (some 13), none, false⟩,
         ⟨.load none (.t 13), (some 14), none, false⟩,
         ⟨.mov (.t 14), (some 5), none, true⟩])
      (.ops [⟨.mov (.t 0), (some 15), none, true⟩,
        ⟨.mov (.t 5), (some 16), none, true⟩,
        ⟨.call (.f 27) [(.t 15), (.t 16)], (some 17), none, false⟩])))
    (.ops [⟨.bin .add (.t 11) (.c (.int .i64 1)), (some 18), none, true⟩,
      ⟨.mov (.t 18), (some 11), none, true⟩])))))))
theorem st15 : stmOf Try.prog 15 p15 = some (s15, [], 19) := by kernel_rfl

def p16 : Plan := ⟨⟨[], [], [], [], [], []⟩, [(4, [0, 1, 2, 3, 4, 5, 6, 7, 8, 9, 10, 11, 12, 13, 14, 15, 16])]⟩
/-- (*cupel/sha.Digest).Sum (1 parameters, 0 captured) -/
def s16 : Stm :=
  .seq (.ops [⟨.mov (.c (.str [])), (some 2), none, true⟩])
  (.seq (.seq (.ops [⟨.mov (.t 0), (some 6), none, true⟩,
      ⟨.eql .ptr false (.t 6) (.c .nilptr), (some 7), none, true⟩])
   (.cond (.t 7)
    (.seq (.ops [⟨.mov (.c (.str [])), (some 2), none, true⟩])
     (.ret))
    (.skip)))
  (.seq (.ops [⟨.mov (.t 0), (some 8), none, true⟩,
     ⟨.nilCheck (.t 8), (some 9), none, true⟩,
     ⟨.fieldAddr 0 (.t 9), (some 10), none, true⟩,
     ⟨.load (some 25) (.t 10), (some 11), none, false⟩,
     ⟨.alloc [(.int .u64 0), (.int .u64 0), (.int .u64 0), (.int .u64 0), (.int .u64 0), (.int .u64 0), (.int .u64 0), (.int .u64 0), (.int .u64 0), (.int .u64 0), (.int .u64 0), (.int .u64 0), (.int .u64 0), (.int .u64 0), (.int .u64 0), (.int .u64 0), (.int .u64 0), (.int .u64 0), (.int .u64 0), (.int .u64 0), (.int .u64 0), (.int .u64 0), (.int .u64 0), (.int .u64 0), (.int .u64 0)], (some 3), none, false⟩,
     ⟨.store 25 (.t 3) (.t 11), none, none, false⟩])
  (.seq (.ops [⟨.mov (.t 0), (some 12), none, true⟩,
     ⟨.nilCheck (.t 12), (some 13), none, true⟩,
     ⟨.fieldAddr 25 (.t 13), (some 14), none, true⟩,
     ⟨.load none (.t 14), (some 15), none, false⟩,
     ⟨.bin .quo (.t 15) (.c (.int .i64 8)), (some 16), none, true⟩,
     ⟨.indexAddrA 25 1 (.t 3) (.t 16), (some 17), none, true⟩,
     ⟨.load none (.t 17), (some 18), none, false⟩,
     ⟨.mov (.t 0), (some 19), none, true⟩,
     ⟨.nilCheck (.t 19), (some 20), none, true⟩,
     ⟨.fieldAddr 25 (.t 20), (some 21), none, true⟩,
     ⟨.load none (.t 21), (some 22), none, false⟩,
     ⟨.bin .rem (.t 22) (.c (.int .i64 8)), (some 23), none, true⟩,
     ⟨.bin .mul (.t 23) (.c (.int .i64 8)), (some 24), none, true⟩,
     ⟨.bin .shl (.c (.int .u64 6)) (.t 24), (some 25), none, true⟩,
     ⟨.bin .xor (.t 18) (.t 25), (some 26), none, true⟩,
     ⟨.indexAddrA 25 1 (.t 3) (.t 16), (some 27), none, true⟩,
     ⟨.store 1 (.t 27) (.t 26), none, none, false⟩])
  (.seq (.ops [⟨.indexAddrA 25 1 (.t 3) (.c (.int .i64 16)), (some 28), none, true⟩,
     ⟨.load none (.t 28), (some 29), none, false⟩,
     ⟨.bin .xor (.t 29) (.c (.int .u64 9223372036854775808)), (some 30), none, true⟩,
     ⟨.indexAddrA 25 1 (.t 3) (.c (.int .i64 16)), (some 31), none, true⟩,
     ⟨.store 1 (.t 31) (.t 30), none, none, false⟩])
  (.seq (.ops [⟨.load (some 25) (.t 3), (some 32), none, false⟩,
     ⟨.qcall (.f 9) [(.t 32)], (some 33), none, false⟩,
     ⟨.store 25 (.t 3) (.t 33), none, none, false⟩])
  (.seq (.ops [⟨.alloc [(.int .u8 0), (.int .u8 0), (.int .u8 0), (.int .u8 0), (.int .u8 0), (.int .u8 0), (.int .u8 0), (.int .u8 0), (.int .u8 0), (.int .u8 0), (.int .u8 0), (.int .u8 0), (.int .u8 0), (.int .u8 0), (.int .u8 0), (.int .u8 0), (.int .u8 0), (.int .u8 0), (.int .u8 0), (.int .u8 0), (.int .u8 0), (.int .u8 0), (.int .u8 0), (.int .u8 0), (.int .u8 0), (.int .u8 0), (.int .u8 0), (.int .u8 0), (.int .u8 0), (.int .u8 0), (.int .u8 0), (.int .u8 0)], (some 4), none, false⟩])
  (.seq (.seq (.ops [⟨.mov (.c (.int .i64 0)), (some 34), none, true⟩])
   (.block 0 (.loop (.seq (.ops [⟨.bin .lss (.t 34) (.c (.int .i64 32)), (some 35), none, true⟩])
     (.seq (.cond (.t 35)
       (.skip)
       (.exit 0))
     (.seq (.block 1 (.seq (.ops [⟨.mov (.t 34), (some 36), none, true⟩,
          ⟨.mov (.t 36), (some 5), none, true⟩])
       (.ops [⟨.mov (.t 5), (some 37), none, true⟩,
         ⟨.mov (.t 5), (some 38), none, true⟩,
         ⟨.bin .quo (.t 38) (.c (.int .i64 8)), (some 39), none, true⟩,
         ⟨.indexAddrA 25 1 (.t 3) (.t 39), (some 40), none, true⟩,
         ⟨.load none (.t 40), (some 41), none, false⟩,
         ⟨.mov (.t 5), (some 42), none, true⟩,
         ⟨.bin .rem (.t 42) (.c (.int .i64 8)), (some 43), none, true⟩,
         ⟨.bin .mul (.t 43) (.c (.int .i64 8)), (some 44), none, true⟩,
         ⟨.bin .shr (.t 41) (.t 44), (some 45), none, true⟩,
         ⟨.conv (.intInt .u8) (.t 45), (some 46), none, true⟩,
         ⟨.indexAddrA 32 1 (.t 4) (.t 37), (some 47), none, true⟩,
         ⟨.store 1 (.t 47) (.t 46), none, none, false⟩])))
     (.ops [⟨.bin .add (.t 34) (.c (.int .i64 1)), (some 48), none, true⟩,
       ⟨.mov (.t 48), (some 34), none, true⟩])))))))
  (.seq (.ops [⟨.slice (.arr 32) (.t 4) none none none, (some 49), none, false⟩,
     ⟨.conv .bytesStr (.t 49), (some 50), none, false⟩,
     ⟨.mov (.t 50), (some 2), none, true⟩])
  (.ret)))))))))
theorem st16 : stmOf Try.prog 16 p16 = some (s16, [.tmp 2], 51) := by kernel_rfl

def cPut (args : List D) (h : AHeap) (K : D → AHeap → Prop) : Prop :=
  ∃ (id : Nat) (s : List W64 × Nat) (b : UInt8), args = [.ptr id 1 0, .int .u8 b.toNat] ∧ h.f id = some (.cells (encG s)) ∧ s.1.length = 25 ∧ s.2 < 136 ∧ K (.tuple []) (h.set id (.cells (encG (putS s b))))
theorem cPut_mono (args : List D) (h : AHeap) (K K' : D → AHeap → Prop) (hk : ∀ d h, K d h → K' d h) (c : cPut args h K) : cPut args h K' := by
  obtain ⟨id, s, b, e, hid, h1, h2, k⟩ := c
  exact ⟨id, s, b, e, hid, h1, h2, hk _ _ k⟩
theorem cPut_ok (args : List D) (h : AHeap) (K : D → AHeap → Prop) (c : cPut args h K) : ACalls Try.prog 27 args h fun o h' => ∃ d, o = .ret d ∧ K d h' := by
  obtain ⟨id, s, b, rfl, hid, h1, h2, k⟩ := c
  refine (put_c h id s b hid h1 h2).mono fun o h' hh => ?_
  obtain ⟨d, e1, e2, e3⟩ := hh
  exact ⟨d, e1, by rw [e2, e3]; exact k⟩
def tb27 : Tab := tb9.addW 27 cPut cPut_mono
theorem tb27_q : tb27.q = tb9.q := rfl
theorem tb27_a : tb27.a = tb9.a := rfl
theorem tb27_c (g : FuncId) (args : List D) (h : AHeap) (K E : D → AHeap → Prop) : tb27.c g args h K E = if g = 27 then cPut args h K else tb9.c g args h K E := rfl
theorem tb27_ok : tb27.ok Try.prog := Tab.addW_ok tb9_ok cPut_ok
theorem tb27_e : type_of% (And.intro (And.intro @tb27_q (And.intro @tb27_a @tb27_c)) @tb9_e) := (And.intro (And.intro @tb27_q (And.intro @tb27_a @tb27_c)) @tb9_e)

theorem writeS_ok : ∀ {l : List UInt8} {s : List W64 × Nat}, s.1.length = 25 → s.2 < 136 → (writeS s l).1.length = 25 ∧ (writeS s l).2 < 136
  | [], s, h1, h2 => ⟨h1, h2⟩
  | b :: l, s, h1, h2 => by
    have := putS_ok (b := b) h1 h2
    exact writeS_ok (l := l) this.1 this.2
theorem writeS_take {l : List UInt8} {s : List W64 × Nat} {i : Nat} (h : i < l.length) : writeS s (l.take (i + 1)) = putS (writeS s (l.take i)) (l.getD i 0) := by
  have e : l.getD i 0 = l[i]'h := by simp [h]
  rw [e]
  unfold writeS
  rw [List.take_succ_eq_append_getElem h, List.foldl_append]; rfl
set_option maxHeartbeats 4000000 in
theorem write_c (h : AHeap) (id : Nat) (s : List W64 × Nat) (l : List UInt8) (hid : h.f id = some (.cells (encG s))) (h1 : s.1.length = 25) (h2 : s.2 < 136) : ACalls Try.prog 15 [.ptr id 1 0, .str l] h fun o h' => ∃ d, o = .ret d ∧ d = .tuple [] ∧ h' = h.set id (.cells (encG (writeS s l))) := by
  refine ACalls.runF tb27_ok st15 (by simp) ?_
  simp (config := {maxSteps := 1000000}) only [s15, tb27_e, Int.natCast_nonneg, Nat.le_refl, Int.le_refl, List.take_succ_cons, List.take_zero, decide_true, decide_false, Bool.and_false, Bool.false_and, zz, zzN, zzF, fltEv, isArithF, ↓reduceIte, Nat.reduceEqDiff, Nat.reduceBEq, Int.reduceLT, Int.reduceLE, Int.reduceToNat, Int.reduceEq, Int.reduceAdd, Int.reduceSub, Int.reduceMul, Int.reduceNeg, Nat.reduceMul, Nat.reduceSub, Nat.reduceLeDiff, Nat.reduceLT, Int.reduceGT, Int.reduceBEq, Int.reduceBNe, reduceCtorEq, Nat.reduceAdd, Ins.map, Fr.ev, argFr, argE, binEv, intEv, shEv, strEv, unEv, Fr.mark, evRes, tup, lenD, lookupD, loadD, partD, storeD, cellsD, cellOk, setAt, objNe, objSame, eqEv, readEv, buildD, buildRows, rowsOf, elemsOf]
  intro hl
  refine run_loop (X := Nat) (fun i => [(0, .ptr id 1 0), (9, .sl (encB l)), (10, .int .i64 l.length), (11, .int .i64 i)]) (fun i => h.set id (.cells (encG (writeS s (l.take i))))) (fun i => l.length - i) (fun i => i ≤ l.length) 0 (by simp) ?_ ?_ ?_
  · simp only [Int.natCast_nonneg, Nat.le_refl, Int.le_refl, List.take_succ_cons, List.take_zero, decide_true, decide_false, Bool.and_false, Bool.false_and, zz, zzN, zzF, fltEv, isArithF, ↓reduceIte, Nat.reduceEqDiff, Nat.reduceBEq, Int.reduceLT, Int.reduceLE, Int.reduceToNat, Int.reduceEq, Int.reduceAdd, Int.reduceSub, Int.reduceMul, Int.reduceNeg, Nat.reduceMul, Nat.reduceSub, Nat.reduceLeDiff, Nat.reduceLT, Int.reduceGT, Int.reduceBEq, Int.reduceBNe, reduceCtorEq, Nat.reduceAdd, Ins.map, Fr.ev, argFr, argE, binEv, intEv, shEv, strEv, unEv, Fr.mark, evRes, tup, lenD, lookupD, loadD, partD, storeD, cellsD, cellOk, setAt, objNe, objSame, eqEv, readEv, buildD, buildRows, rowsOf, elemsOf]
  · simp only [List.take_zero]
    exact AHeap.sub_X (AHeap.subX_l hid AHeap.subX_refl)
  intro i Q hi hQ
  have ho := writeS_ok (l := l.take i) h1 h2
  by_cases c : i < l.length
  · have g1 : ((i : Int) < (l.length : Int)) = True := by simp; exact c
    have wi : IntKind.i64.wrap ((i : Int) + 1) = ((i + 1 : Nat) : Int) := wrap_succ (by omega)
    have f := writeS_take (s := s) c
    generalize writeS s (l.take i) = S at *
    simp (config := {maxSteps := 1000000}) only [g1, wi, tb27_e, Int.natCast_nonneg, Nat.le_refl, Int.le_refl, List.take_succ_cons, List.take_zero, decide_true, decide_false, Bool.and_false, Bool.false_and, zz, zzN, zzF, fltEv, isArithF, ↓reduceIte, Nat.reduceEqDiff, Nat.reduceBEq, Int.reduceLT, Int.reduceLE, Int.reduceToNat, Int.reduceEq, Int.reduceAdd, Int.reduceSub, Int.reduceMul, Int.reduceNeg, Nat.reduceMul, Nat.reduceSub, Nat.reduceLeDiff, Nat.reduceLT, Int.reduceGT, Int.reduceBEq, Int.reduceBNe, reduceCtorEq, Nat.reduceAdd, Ins.map, Fr.ev, argFr, argE, binEv, intEv, shEv, strEv, unEv, Fr.mark, evRes, tup, lenD, lookupD, loadD, partD, storeD, cellsD, cellOk, setAt, objNe, objSame, eqEv, readEv, buildD, buildRows, rowsOf, elemsOf]
    refine ⟨id, S, l.getD i 0, rfl, by simp, ho.1, ho.2, ?_⟩
    simp (config := {maxSteps := 1000000}) only [g1, wi, tb27_e, Int.natCast_nonneg, Nat.le_refl, Int.le_refl, List.take_succ_cons, List.take_zero, decide_true, decide_false, Bool.and_false, Bool.false_and, zz, zzN, zzF, fltEv, isArithF, ↓reduceIte, Nat.reduceEqDiff, Nat.reduceBEq, Int.reduceLT, Int.reduceLE, Int.reduceToNat, Int.reduceEq, Int.reduceAdd, Int.reduceSub, Int.reduceMul, Int.reduceNeg, Nat.reduceMul, Nat.reduceSub, Nat.reduceLeDiff, Nat.reduceLT, Int.reduceGT, Int.reduceBEq, Int.reduceBNe, reduceCtorEq, Nat.reduceAdd, Ins.map, Fr.ev, argFr, argE, binEv, intEv, shEv, strEv, unEv, Fr.mark, evRes, tup, lenD, lookupD, loadD, partD, storeD, cellsD, cellOk, setAt, objNe, objSame, eqEv, readEv, buildD, buildRows, rowsOf, elemsOf]
    exact hQ (i + 1) _ _ (by omega) (by simp only [Int.natCast_nonneg, Nat.le_refl, Int.le_refl, List.take_succ_cons, List.take_zero, decide_true, decide_false, Bool.and_false, Bool.false_and, zz, zzN, zzF, fltEv, isArithF, ↓reduceIte, Nat.reduceEqDiff, Nat.reduceBEq, Int.reduceLT, Int.reduceLE, Int.reduceToNat, Int.reduceEq, Int.reduceAdd, Int.reduceSub, Int.reduceMul, Int.reduceNeg, Nat.reduceMul, Nat.reduceSub, Nat.reduceLeDiff, Nat.reduceLT, Int.reduceGT, Int.reduceBEq, Int.reduceBNe, reduceCtorEq, Nat.reduceAdd, Ins.map, Fr.ev, argFr, argE, binEv, intEv, shEv, strEv, unEv, Fr.mark, evRes, tup, lenD, lookupD, loadD, partD, storeD, cellsD, cellOk, setAt, objNe, objSame, eqEv, readEv, buildD, buildRows, rowsOf, elemsOf]) (by rw [f]; exact AHeap.sub_refl _) (by omega)
  · have g1 : ((i : Int) < (l.length : Int)) = False := by simp; omega
    have hc : i = l.length := by omega
    subst hc
    rw [List.take_length] at *
    simp (config := {maxSteps := 1000000}) only [g1, tb27_e, Int.natCast_nonneg, Nat.le_refl, Int.le_refl, List.take_succ_cons, List.take_zero, decide_true, decide_false, Bool.and_false, Bool.false_and, zz, zzN, zzF, fltEv, isArithF, ↓reduceIte, Nat.reduceEqDiff, Nat.reduceBEq, Int.reduceLT, Int.reduceLE, Int.reduceToNat, Int.reduceEq, Int.reduceAdd, Int.reduceSub, Int.reduceMul, Int.reduceNeg, Nat.reduceMul, Nat.reduceSub, Nat.reduceLeDiff, Nat.reduceLT, Int.reduceGT, Int.reduceBEq, Int.reduceBNe, reduceCtorEq, Nat.reduceAdd, Ins.map, Fr.ev, argFr, argE, binEv, intEv, shEv, strEv, unEv, Fr.mark, evRes, tup, lenD, lookupD, loadD, partD, storeD, cellsD, cellOk, setAt, objNe, objSame, eqEv, readEv, buildD, buildRows, rowsOf, elemsOf]
    exact ⟨_, AHeap.sub_refl _, rfl⟩
theorem write_nil (h : AHeap) (l : List UInt8) : ACalls Try.prog 15 [.nilptr, .str l] h fun o h' => ∃ d, o = .ret d ∧ d = .tuple [] ∧ h' = h := by
  refine ACalls.runF tb27_ok st15 (by simp) ?_
  simp (config := {maxSteps := 1000000}) only [s15, tb27_e, Int.natCast_nonneg, Nat.le_refl, Int.le_refl, List.take_succ_cons, List.take_zero, decide_true, decide_false, Bool.and_false, Bool.false_and, zz, zzN, zzF, fltEv, isArithF, ↓reduceIte, Nat.reduceEqDiff, Nat.reduceBEq, Int.reduceLT, Int.reduceLE, Int.reduceToNat, Int.reduceEq, Int.reduceAdd, Int.reduceSub, Int.reduceMul, Int.reduceNeg, Nat.reduceMul, Nat.reduceSub, Nat.reduceLeDiff, Nat.reduceLT, Int.reduceGT, Int.reduceBEq, Int.reduceBNe, reduceCtorEq, Nat.reduceAdd, Ins.map, Fr.ev, argFr, argE, binEv, intEv, shEv, strEv, unEv, Fr.mark, evRes, tup, lenD, lookupD, loadD, partD, storeD, cellsD, cellOk, setAt, objNe, objSame, eqEv, readEv, buildD, buildRows, rowsOf, elemsOf]
  exact ⟨_, AHeap.sub_refl _, rfl⟩
def encC (l : List UInt8) : List D := l.map fun b => .int .u8 b.toNat
theorem conv8 (x : W64) : IntKind.u8.wrap (ofW x) = ((UInt8.ofNat (x.toNat % 256)).toNat : Int) := by
  have e : (UInt8.ofNat (x.toNat % 256)).toNat = x.toNat % 256 := by
    rw [UInt8.toNat_ofNat']
    omega
  rw [e]
  unfold ofW
  generalize x.toNat = n
  simp [IntKind.wrap, IntKind.signed, IntKind.bits]

theorem encC_set {l : List UInt8} {i : Nat} {b : UInt8} : (encC l).set i (.int .u8 b.toNat) = encC (l.set i b) := by simp [encC, List.map_set]
theorem len_encC {l : List UInt8} : (encC l).length = l.length := by simp [encC]
def outF (a : List W64) (k : Nat) : List UInt8 := (List.range k).foldl (fun l i => l.set i (outB a i)) (List.replicate 32 0)
theorem outF_succ (a : List W64) (k : Nat) : outF a (k + 1) = (outF a k).set k (outB a k) := by unfold outF; exact fold_succ _ _ _
theorem outF_zero (a : List W64) : outF a 0 = List.replicate 32 0 := rfl
theorem len_outF (a : List W64) (k : Nat) : (outF a k).length = 32 := by
  induction k with
  | zero => rfl
  | succ k ih => rw [outF_succ, List.length_set, ih]
theorem setR_all (f : Nat → UInt8) : ∀ (k n : Nat), k ≤ n → (List.range k).foldl (fun l i => l.set i (f i)) (List.replicate n 0) = (List.range k).map f ++ List.replicate (n - k) 0
  | 0, n, _ => by simp
  | k + 1, n, h => by
    rw [fold_succ, setR_all f k n (by omega), List.range_succ, List.map_append]
    have e : n - k = n - (k + 1) + 1 := by omega
    rw [e, List.replicate_succ, List.set_append_right _ _ (by simp)]
    simp
theorem outF_all (a : List W64) : outF a 32 = outS a := by
  have := setR_all (outB a) 32 32 (Nat.le_refl _)
  unfold outF outS
  rw [this]
  simp
theorem i_str_cslC {T : Tab} {h : AHeap} {K E : D → AHeap → Prop} {id n : Nat} {l : List UInt8} (e : h.f id = some (.cells (encC l))) (hn : l.length = n) : vcI T (.conv .bytesStr (.csl id 0 n)) h K E = K (.str l) h := by
  subst hn
  rw [i_bytesStr]
  have e1 : ((encC l).map fun d => [d]) = encB l := by simp [encC, encB]
  have e2 : readEv h (.conv .bytesStr (.csl id 0 l.length)) = some (.str l) := by
    simp only [readEv, elemsOf, e, len_encC, Nat.zero_add, Nat.le_refl, if_true, List.drop_zero]
    rw [List.take_of_length_le (by rw [len_encC]; exact Nat.le_refl _), e1, enc_all, enc_dec]
    rfl
  rw [e2, ask_some]
set_option maxHeartbeats 4000000 in
theorem sum_c (h : AHeap) (id : Nat) (s : List W64 × Nat) (hid : h.f id = some (.cells (encG s))) (h1 : s.1.length = 25) (h2 : s.2 < 136) : ACalls Try.prog 16 [.ptr id 1 0] h fun o h' => ∃ d, o = .ret d ∧ d = .str (sumS s) ∧ h' = h := by
  refine ACalls.runF tb27_ok st16 (by simp) ?_
  obtain ⟨a, n⟩ := s
  have m8 : Int.tmod (n : Int) 8 = ((n % 8 : Nat) : Int) := tmod_nat n 8
  have d8 : Int.tdiv (n : Int) 8 = ((n / 8 : Nat) : Int) := tdiv_nat n 8
  have wd : IntKind.i64.wrap ((n / 8 : Nat) : Int) = ((n / 8 : Nat) : Int) := wr _ (by simp only at h2; omega)
  have g := encG_at h1
  have l1 := encG_len h1
  have gt := encG_take h1
  simp only at h1 h2 g l1 gt
  have e1 := encW_get (l := a) (i := n / 8) (by omega)
  have ld : (((n / 8 : Nat) : Int) < 25) = True := by simp; omega
  have pd : 0 + n / 8 * 1 = n / 8 := by omega
  have wm : IntKind.i64.wrap (((n % 8 : Nat) : Int) * 8) = ((n % 8 * 8 : Nat) : Int) := by rw [wrap_i64 (by omega) (by omega)]; omega
  have lm : (((n % 8 * 8 : Nat) : Int) < 0) = False := eq_false (by omega)
  have ws : IntKind.u64.wrap (6 * 2 ^ min (n % 8 * 8) IntKind.u64.bits) = ofW (byW 6 n) := w_shl 6 (n % 8 * 8) (by omega)
  have o63 : (9223372036854775808 : Int) = ofW 9223372036854775808 := rfl
  have cW : ∀ l : List W64, (encW l).all cellOk = true := fun l => by simp [encW, cellOk]
  have e2 : ∀ v, (encW a).set (n / 8) (.int .u64 (ofW v)) = encW (a.set (n / 8) v) := fun v => encW_set
  have fS : a.set (n / 8) (a.getD (n / 8) 0 ^^^ byW 6 n) = soakB a n 6 := rfl
  have lS : (soakB a n 6).length = 25 := by rw [len_soakB, h1]
  have e3 := encW_get (l := soakB a n 6) (i := 16) (by omega)
  have fE : (soakB a n 6).set 16 ((soakB a n 6).getD 16 0 ^^^ 9223372036854775808) = endS (soakB a n 6) := rfl
  have lE : (endS (soakB a n 6)).length = 25 := by simp [endS, lS]
  have q := q9_eq lE
  have fs : sumS (a, n) = outS (turnF (endS (soakB a n 6)) 24) := rfl
  have lT : (turnF (endS (soakB a n 6)) 24).length = 25 := by rw [len_turnF, lE]
  generalize turnF (endS (soakB a n 6)) 24 = T at *
  generalize endS (soakB a n 6) = G at *
  have tE := takeW lE
  simp (config := {maxSteps := 1000000}) only [s16, hid, m8, d8, wd, g, l1, gt, h1, e1, e2, e3, fS, fE, ld, pd, wm, lm, ws, o63, w_xor, cW, setAt_all, len_encW, lS, lE, lT, tE, q, plC_encW, frz_encW, encW_set, Nat.mul_one, tb27_e, Int.natCast_nonneg, Nat.le_refl, Int.le_refl, List.take_succ_cons, List.take_zero, decide_true, decide_false, Bool.and_false, Bool.false_and, zz, zzN, zzF, fltEv, isArithF, ↓reduceIte, Nat.reduceEqDiff, Nat.reduceBEq, Int.reduceLT, Int.reduceLE, Int.reduceToNat, Int.reduceEq, Int.reduceAdd, Int.reduceSub, Int.reduceMul, Int.reduceNeg, Nat.reduceMul, Nat.reduceSub, Nat.reduceLeDiff, Nat.reduceLT, Int.reduceGT, Int.reduceBEq, Int.reduceBNe, reduceCtorEq, Nat.reduceAdd, Ins.map, Fr.ev, argFr, argE, binEv, intEv, shEv, strEv, unEv, Fr.mark, evRes, tup, lenD, lookupD, loadD, partD, storeD, cellsD, cellOk, setAt, objNe, objSame, eqEv, readEv, buildD, buildRows, rowsOf, elemsOf]
  intro j hj
  have n1 : ¬ j = id := fun e => by subst e; rw [hid] at hj; cases hj
  have n2 : ¬ id = j := fun e => n1 e.symm
  have tT := takeW lT
  simp (config := {maxSteps := 1000000}) only [hid, n1, n2, m8, d8, wd, g, l1, gt, h1, e1, e2, e3, fS, fE, ld, pd, wm, lm, ws, o63, w_xor, cW, setAt_all, len_encW, lS, lE, lT, tE, tT, q, plC_encW, frz_encW, encW_set, Nat.mul_one, tb27_e, Int.natCast_nonneg, Nat.le_refl, Int.le_refl, List.take_succ_cons, List.take_zero, decide_true, decide_false, Bool.and_false, Bool.false_and, zz, zzN, zzF, fltEv, isArithF, ↓reduceIte, Nat.reduceEqDiff, Nat.reduceBEq, Int.reduceLT, Int.reduceLE, Int.reduceToNat, Int.reduceEq, Int.reduceAdd, Int.reduceSub, Int.reduceMul, Int.reduceNeg, Nat.reduceMul, Nat.reduceSub, Nat.reduceLeDiff, Nat.reduceLT, Int.reduceGT, Int.reduceBEq, Int.reduceBNe, reduceCtorEq, Nat.reduceAdd, Ins.map, Fr.ev, argFr, argE, binEv, intEv, shEv, strEv, unEv, Fr.mark, evRes, tup, lenD, lookupD, loadD, partD, storeD, cellsD, cellOk, setAt, objNe, objSame, eqEv, readEv, buildD, buildRows, rowsOf, elemsOf]
  refine ⟨by omega, ?_⟩
  intro e n3 n4 he
  have n5 : ¬ e = id := fun k => by subst k; rw [hid] at he; cases he
  have n6 : ¬ id = e := fun k => n5 k.symm
  refine run_loop (X := Nat) (fun i => [(3, .ptr j 1 0), (4, .ptr e 1 0), (34, .int .i64 i)]) (fun i => (h.set j (.cells (encW T))).set e (.cells (encC (outF T i)))) (fun i => 32 - i) (fun i => i ≤ 32) 0 (by simp) ?_ ?_ ?_
  · simp only [Int.natCast_nonneg, Nat.le_refl, Int.le_refl, List.take_succ_cons, List.take_zero, decide_true, decide_false, Bool.and_false, Bool.false_and, zz, zzN, zzF, fltEv, isArithF, ↓reduceIte, Nat.reduceEqDiff, Nat.reduceBEq, Int.reduceLT, Int.reduceLE, Int.reduceToNat, Int.reduceEq, Int.reduceAdd, Int.reduceSub, Int.reduceMul, Int.reduceNeg, Nat.reduceMul, Nat.reduceSub, Nat.reduceLeDiff, Nat.reduceLT, Int.reduceGT, Int.reduceBEq, Int.reduceBNe, reduceCtorEq, Nat.reduceAdd, Ins.map, Fr.ev, argFr, argE, binEv, intEv, shEv, strEv, unEv, Fr.mark, evRes, tup, lenD, lookupD, loadD, partD, storeD, cellsD, cellOk, setAt, objNe, objSame, eqEv, readEv, buildD, buildRows, rowsOf, elemsOf]
  · rw [outF_zero]; exact AHeap.sub_refl _
  intro i Q hi hQ
  have lo := len_outF T i
  by_cases c : i < 32
  · have g1 : ((i : Int) < 32) = True := eq_true (by omega)
    have wi : IntKind.i64.wrap ((i : Int) + 1) = ((i + 1 : Nat) : Int) := wrap_succ (by omega)
    have mi : Int.tmod (i : Int) 8 = ((i % 8 : Nat) : Int) := tmod_nat i 8
    have di : Int.tdiv (i : Int) 8 = ((i / 8 : Nat) : Int) := tdiv_nat i 8
    have wdi : IntKind.i64.wrap ((i / 8 : Nat) : Int) = ((i / 8 : Nat) : Int) := wr _ (by omega)
    have gi := encW_get (l := T) (i := i / 8) (by omega)
    have li : (((i / 8 : Nat) : Int) < 25) = True := by simp; omega
    have pi : 0 + i / 8 * 1 = i / 8 := by omega
    have wmi : IntKind.i64.wrap (((i % 8 : Nat) : Int) * 8) = ((i % 8 * 8 : Nat) : Int) := by rw [wrap_i64 (by omega) (by omega)]; omega
    have lmi : (((i % 8 * 8 : Nat) : Int) < 0) = False := eq_false (by omega)
    have wsi := w_shr (T.getD (i / 8) 0) (i % 8 * 8) (by omega)
    have c8 : IntKind.u8.wrap (ofW (T.getD (i / 8) 0 >>> (i % 8 * 8))) = ((outB T i).toNat : Int) := conv8 _
    have f := outF_succ T i
    generalize outF T i = O at *
    generalize outB T i = o at *
    simp (config := {maxSteps := 1000000}) only [n1, n2, n3, n4, n5, n6, g1, wi, mi, di, wdi, gi, li, pi, wmi, lmi, wsi, c8, encC_set, len_encC, lo, len_encW, lT, Nat.mul_one, tb27_e, Int.natCast_nonneg, Nat.le_refl, Int.le_refl, List.take_succ_cons, List.take_zero, decide_true, decide_false, Bool.and_false, Bool.false_and, zz, zzN, zzF, fltEv, isArithF, ↓reduceIte, Nat.reduceEqDiff, Nat.reduceBEq, Int.reduceLT, Int.reduceLE, Int.reduceToNat, Int.reduceEq, Int.reduceAdd, Int.reduceSub, Int.reduceMul, Int.reduceNeg, Nat.reduceMul, Nat.reduceSub, Nat.reduceLeDiff, Nat.reduceLT, Int.reduceGT, Int.reduceBEq, Int.reduceBNe, reduceCtorEq, Nat.reduceAdd, Ins.map, Fr.ev, argFr, argE, binEv, intEv, shEv, strEv, unEv, Fr.mark, evRes, tup, lenD, lookupD, loadD, partD, storeD, cellsD, cellOk, setAt, objNe, objSame, eqEv, readEv, buildD, buildRows, rowsOf, elemsOf]
    refine ⟨by omega, hQ (i + 1) _ _ (by omega) (by simp only [Int.natCast_nonneg, Nat.le_refl, Int.le_refl, List.take_succ_cons, List.take_zero, decide_true, decide_false, Bool.and_false, Bool.false_and, zz, zzN, zzF, fltEv, isArithF, ↓reduceIte, Nat.reduceEqDiff, Nat.reduceBEq, Int.reduceLT, Int.reduceLE, Int.reduceToNat, Int.reduceEq, Int.reduceAdd, Int.reduceSub, Int.reduceMul, Int.reduceNeg, Nat.reduceMul, Nat.reduceSub, Nat.reduceLeDiff, Nat.reduceLT, Int.reduceGT, Int.reduceBEq, Int.reduceBNe, reduceCtorEq, Nat.reduceAdd, Ins.map, Fr.ev, argFr, argE, binEv, intEv, shEv, strEv, unEv, Fr.mark, evRes, tup, lenD, lookupD, loadD, partD, storeD, cellsD, cellOk, setAt, objNe, objSame, eqEv, readEv, buildD, buildRows, rowsOf, elemsOf]) ?_ (by omega)⟩
    rw [f]
    exact AHeap.sub_refl _
  · have g1 : ((i : Int) < 32) = False := by simp; omega
    have hc : i = 32 := by omega
    subst hc
    have hs : sliceEv (.arr 32) (.ptr e 1 0) none none none = some (.csl e 0 32) := rfl
    rw [fs, ← outF_all]
    generalize outF T 32 = O at *
    have hc : ∀ (K E : D → AHeap → Prop), vcI tb27 (.conv .bytesStr (.csl e 0 32)) ((h.set j (.cells (encW T))).set e (.cells (encC O))) K E = K (.str O) ((h.set j (.cells (encW T))).set e (.cells (encC O))) := fun K E => i_str_cslC (by simp) lo
    simp (config := {maxSteps := 1000000}) only [n1, n2, n3, n4, n5, n6, g1, hs, hc, tb27_e, Int.natCast_nonneg, Nat.le_refl, Int.le_refl, List.take_succ_cons, List.take_zero, decide_true, decide_false, Bool.and_false, Bool.false_and, zz, zzN, zzF, fltEv, isArithF, ↓reduceIte, Nat.reduceEqDiff, Nat.reduceBEq, Int.reduceLT, Int.reduceLE, Int.reduceToNat, Int.reduceEq, Int.reduceAdd, Int.reduceSub, Int.reduceMul, Int.reduceNeg, Nat.reduceMul, Nat.reduceSub, Nat.reduceLeDiff, Nat.reduceLT, Int.reduceGT, Int.reduceBEq, Int.reduceBNe, reduceCtorEq, Nat.reduceAdd, Ins.map, Fr.ev, argFr, argE, binEv, intEv, shEv, strEv, unEv, Fr.mark, evRes, tup, lenD, lookupD, loadD, partD, storeD, cellsD, cellOk, setAt, objNe, objSame, eqEv, readEv, buildD, buildRows, rowsOf, elemsOf]
    refine ⟨_, ?_, rfl⟩
    exact AHeap.sub_X (by repeat' first | with_reducible exact AHeap.subX_refl | with_reducible exact AHeap.subX_emp | refine AHeap.subX_l (by simp [hj, he, n3, n4]) ?_ | refine AHeap.subX_r (by simp [hj, he, n3, n4]) ?_)
theorem sum_nil (h : AHeap) : ACalls Try.prog 16 [.nilptr] h fun o h' => ∃ d, o = .ret d ∧ d = .str [] ∧ h' = h := by
  refine ACalls.runF tb27_ok st16 (by simp) ?_
  simp (config := {maxSteps := 1000000}) only [s16, tb27_e, Int.natCast_nonneg, Nat.le_refl, Int.le_refl, List.take_succ_cons, List.take_zero, decide_true, decide_false, Bool.and_false, Bool.false_and, zz, zzN, zzF, fltEv, isArithF, ↓reduceIte, Nat.reduceEqDiff, Nat.reduceBEq, Int.reduceLT, Int.reduceLE, Int.reduceToNat, Int.reduceEq, Int.reduceAdd, Int.reduceSub, Int.reduceMul, Int.reduceNeg, Nat.reduceMul, Nat.reduceSub, Nat.reduceLeDiff, Nat.reduceLT, Int.reduceGT, Int.reduceBEq, Int.reduceBNe, reduceCtorEq, Nat.reduceAdd, Ins.map, Fr.ev, argFr, argE, binEv, intEv, shEv, strEv, unEv, Fr.mark, evRes, tup, lenD, lookupD, loadD, partD, storeD, cellsD, cellOk, setAt, objNe, objSame, eqEv, readEv, buildD, buildRows, rowsOf, elemsOf]
  exact ⟨_, AHeap.sub_refl _, rfl⟩
end Go.Proofs.Ytiilnakenlegmaa.Zz
