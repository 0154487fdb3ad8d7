/- Contracts: the digest of parts. -/
import Derived.Test.YtiilnakenlegmaaZK14
namespace Go.Proofs.Ytiilnakenlegmaa.Zz
set_option linter.unusedVariables false
set_option linter.unusedSimpArgs false
set_option maxRecDepth 20000
def p28 : Plan := ⟨⟨[], [], [], [], [], []⟩, []⟩
/-- cupel/sha.size (1 parameters, 0 captured) -/
def s28 : Stm :=
  .seq (.ops [⟨.mov (.c (.str [])), (some 2), none, true⟩])
  (.seq (.ops [⟨.alloc [(.int .u8 0), (.int .u8 0), (.int .u8 0), (.int .u8 0), (.int .u8 0), (.int .u8 0), (.int .u8 0), (.int .u8 0)], (some 3), none, false⟩])
  (.seq (.seq (.ops [⟨.mov (.c (.int .i64 0)), (some 5), none, true⟩])
   (.block 0 (.loop (.seq (.ops [⟨.bin .lss (.t 5) (.c (.int .i64 8)), (some 6), none, true⟩])
     (.seq (.cond (.t 6)
       (.skip)
       (.exit 0))
     (.seq (.block 1 (.seq (.ops [⟨.mov (.t 5), (some 7), none, true⟩,
          ⟨.mov (.t 7), (some 4), none, true⟩])
       (.ops [⟨.mov (.t 4), (some 8), none, true⟩,
         ⟨.mov (.t 0), (some 9), none, true⟩,
         ⟨.len .str (.t 9), (some 10), none, false⟩,
         ⟨.mov (.t 4), (some 11), none, true⟩,
         ⟨.bin .mul (.c (.int .i64 8)) (.t 11), (some 12), none, true⟩,
         ⟨.bin .shr (.t 10) (.t 12), (some 13), none, true⟩,
         ⟨.conv (.intInt .u8) (.t 13), (some 14), none, true⟩,
         ⟨.indexAddrA 8 1 (.t 3) (.t 8), (some 15), none, true⟩,
         ⟨.store 1 (.t 15) (.t 14), none, none, false⟩])))
     (.ops [⟨.bin .add (.t 5) (.c (.int .i64 1)), (some 16), none, true⟩,
       ⟨.mov (.t 16), (some 5), none, true⟩])))))))
  (.seq (.ops [⟨.slice (.arr 8) (.t 3) none none none, (some 17), none, false⟩,
     ⟨.conv .bytesStr (.t 17), (some 18), none, false⟩,
     ⟨.mov (.t 18), (some 2), none, true⟩])
  (.ret))))
theorem st28 : stmOf Try.prog 28 p28 = some (s28, [.tmp 2], 19) := by kernel_rfl

def p21 : Plan := ⟨⟨[], [], [], [], [], []⟩, []⟩
/-- cupel/cupelref01.Parts (2 parameters, 0 captured) -/
def s21 : Stm :=
  .seq (.ops [⟨.mov (.c (.str [])), (some 4), none, true⟩])
  (.seq (.ops [⟨.mov (.c (.str [])), (some 5), none, true⟩])
  (.seq (.seq (.ops [⟨.mov (.c (.int .i64 0)), (some 6), none, true⟩])
   (.block 0 (.loop (.seq (.seq (.ops [⟨.mov (.t 6), (some 9), none, true⟩,
         ⟨.mov (.t 1), (some 10), none, true⟩,
         ⟨.len .sl (.t 10), (some 11), none, false⟩,
         ⟨.bin .lss (.t 9) (.t 11), (some 12), none, true⟩])
      (.cond (.t 12)
       (.skip)
       (.exit 0)))
     (.seq (.block 1 (.seq (.ops [⟨.mov (.t 5), (some 15), none, true⟩,
          ⟨.mov (.t 1), (some 16), none, true⟩,
          ⟨.mov (.t 6), (some 17), none, true⟩,
          ⟨.indexAddrS 1 (.t 16) (.t 17), (some 18), none, false⟩,
          ⟨.load none (.t 18), (some 19), none, false⟩,
          ⟨.bin .add (.t 15) (.t 19), (some 20), none, true⟩,
          ⟨.mov (.t 20), (some 5), none, true⟩])
       (.seq (.ops [⟨.mov (.t 1), (some 21), none, true⟩,
          ⟨.mov (.t 6), (some 22), none, true⟩,
          ⟨.indexAddrS 1 (.t 21) (.t 22), (some 23), none, false⟩,
          ⟨.load none (.t 23), (some 24), none, false⟩,
          ⟨.len .str (.t 24), (some 25), none, false⟩,
          ⟨.mov (.t 25), (some 7), none, true⟩])
       (.seq (.ops [⟨.mov (.c (.int .i64 0)), (some 8), none, true⟩])
       (.block 2 (.loop (.seq (.seq (.ops [⟨.mov (.t 8), (some 26), none, true⟩,
             ⟨.bin .lss (.t 26) (.c (.int .i64 8)), (some 27), none, true⟩])
          (.cond (.t 27)
           (.skip)
           (.exit 2)))
         (.seq (.block 3 (.seq (.ops [⟨.mov (.t 5), (some 30), none, true⟩,
              ⟨.mov (.t 7), (some 31), none, true⟩,
              ⟨.bin .rem (.t 31) (.c (.int .i64 256)), (some 32), none, true⟩,
              ⟨.conv (.intInt .u8) (.t 32), (some 33), none, true⟩,
              ⟨.buildSlice 1 [(.int .u8 0)] 1 [(0, (.t 33))] false, (some 34), none, true⟩,
              ⟨.conv .bytesStr (.t 34), (some 35), none, false⟩,
              ⟨.bin .add (.t 30) (.t 35), (some 36), none, true⟩,
              ⟨.mov (.t 36), (some 5), none, true⟩])
           (.ops [⟨.mov (.t 7), (some 37), none, true⟩,
             ⟨.bin .quo (.t 37) (.c (.int .i64 256)), (some 38), none, true⟩,
             ⟨.mov (.t 38), (some 7), none, true⟩])))
         (.ops [⟨.mov (.t 8), (some 28), none, true⟩,
           ⟨.bin .add (.t 28) (.c (.int .i64 1)), (some 29), none, true⟩,
           ⟨.mov (.t 29), (some 8), none, true⟩])))))))))
     (.ops [⟨.mov (.t 6), (some 13), none, true⟩,
       ⟨.bin .add (.t 13) (.c (.int .i64 1)), (some 14), none, true⟩,
       ⟨.mov (.t 14), (some 6), none, true⟩]))))))
  (.seq (.ops [⟨.mov (.t 5), (some 39), none, true⟩,
     ⟨.mov (.t 0), (some 40), none, true⟩,
     ⟨.buildSlice 1 [(.int .u8 0)] 1 [(0, (.t 40))] false, (some 41), none, true⟩,
     ⟨.conv .bytesStr (.t 41), (some 42), none, false⟩,
     ⟨.bin .add (.t 39) (.t 42), (some 43), none, true⟩,
     ⟨.mov (.t 43), (some 4), none, true⟩])
  (.ret))))
theorem st21 : stmOf Try.prog 21 p21 = some (s21, [.tmp 4], 44) := by kernel_rfl

def p20 : Plan := ⟨⟨[], [], [], [], [], []⟩, []⟩
/-- cupel/cupelref01.Tagged (2 parameters, 0 captured) -/
def s20 : Stm :=
  .seq (.ops [⟨.mov (.c (.str [])), (some 4), none, true⟩])
  (.seq (.ops [⟨.mov (.t 0), (some 5), none, true⟩,
     ⟨.mov (.t 1), (some 6), none, true⟩,
     ⟨.qcall (.f 21) [(.t 5), (.t 6)], (some 7), none, false⟩,
     ⟨.qcall (.f 13) [(.t 7)], (some 8), none, false⟩,
     ⟨.mov (.t 8), (some 4), none, true⟩])
  (.ret))
theorem st20 : stmOf Try.prog 20 p20 = some (s20, [.tmp 4], 9) := by kernel_rfl

def p19 : Plan := ⟨⟨[], [(1, 0), (5, 2), (6, 3), (8, 2), (9, 1)], [], [], [], [(1, 0)]⟩, []⟩
/-- cupel/sha.Tagged (2 parameters, 0 captured) -/
def s19 : Stm :=
  .seq (.ops [⟨.mov (.c (.str [])), (some 4), none, true⟩])
  (.seq (.ops [⟨.callA 14, (some 8), none, false⟩,
     ⟨.mov (.t 8), (some 5), none, true⟩])
  (.seq (.seq (.ops [⟨.mov (.t 1), (some 9), none, true⟩,
      ⟨.len .sl (.t 9), (some 10), none, false⟩,
      ⟨.mov (.c (.int .i64 0)), (some 11), none, true⟩])
   (.block 0 (.loop (.seq (.ops [⟨.bin .lss (.t 11) (.t 10), (some 12), none, true⟩])
     (.seq (.cond (.t 12)
       (.skip)
       (.exit 0))
     (.seq (.block 1 (.seq (.ops [⟨.indexAddrS 1 (.t 9) (.t 11), (some 13), none, false⟩,
          ⟨.load none (.t 13), (some 14), none, false⟩,
          ⟨.mov (.t 14), (some 7), none, true⟩])
       (.seq (.ops [⟨.mov (.t 5), (some 15), none, true⟩,
          ⟨.mov (.t 7), (some 16), none, true⟩,
          ⟨.call (.f 15) [(.t 15), (.t 16)], (some 17), none, false⟩])
       (.ops [⟨.mov (.t 5), (some 18), none, true⟩,
         ⟨.mov (.t 7), (some 19), none, true⟩,
         ⟨.qcall (.f 28) [(.t 19)], (some 20), none, false⟩,
         ⟨.call (.f 15) [(.t 18), (.t 20)], (some 21), none, false⟩]))))
     (.ops [⟨.bin .add (.t 11) (.c (.int .i64 1)), (some 22), none, true⟩,
       ⟨.mov (.t 22), (some 11), none, true⟩])))))))
  (.seq (.ops [⟨.mov (.t 5), (some 23), none, true⟩,
     ⟨.mov (.t 0), (some 24), none, true⟩,
     ⟨.call (.f 27) [(.t 23), (.t 24)], (some 25), none, false⟩])
  (.seq (.ops [⟨.mov (.t 5), (some 26), none, true⟩,
     ⟨.call (.f 16) [(.t 26)], (some 27), none, false⟩,
     ⟨.mov (.t 27), (some 4), none, true⟩])
  (.ret)))))
theorem st19 : stmOf Try.prog 19 p19 = some (s19, [.tmp 4], 28) := by kernel_rfl

def sizeAt (n i : Nat) : UInt8 := UInt8.ofNat (n / 2 ^ (8 * i) % 256)
def sizeB (n : Nat) : List UInt8 := (List.range 8).map (sizeAt n)
def sizeF (n k : Nat) : List UInt8 := (List.range k).foldl (fun l i => l.set i (sizeAt n i)) (List.replicate 8 0)
theorem sizeF_succ (n k : Nat) : sizeF n (k + 1) = (sizeF n k).set k (sizeAt n k) := by unfold sizeF; exact fold_succ _ _ _
theorem len_sizeF (n k : Nat) : (sizeF n k).length = 8 := by
  induction k with
  | zero => rfl
  | succ k ih => rw [sizeF_succ, List.length_set, ih]
theorem sizeF_all (n : Nat) : sizeF n 8 = sizeB n := by
  have := setR_all (sizeAt n) 8 8 (Nat.le_refl _)
  unfold sizeF sizeB
  rw [this]
  simp
theorem len_sizeB (n : Nat) : (sizeB n).length = 8 := rfl
theorem conv_size (n i : Nat) (h : i < 8) : IntKind.u8.wrap (Int.fdiv (n : Int) (2 ^ min (8 * i) IntKind.i64.bits)) = ((sizeAt n i).toNat : Int) := by
  have e : (sizeAt n i).toNat = n / 2 ^ (8 * i) % 256 := by
    unfold sizeAt
    rw [UInt8.toNat_ofNat']
    omega
  have hm : min (8 * i) IntKind.i64.bits = 8 * i := by
    have : IntKind.i64.bits = 64 := rfl
    omega
  have h2 : (2 : Int) ^ (8 * i) = ((2 ^ (8 * i) : Nat) : Int) := by rw [Int.natCast_pow]; rfl
  rw [e, hm, h2, ← Int.ofNat_fdiv, wrap_u8]
  omega
theorem size_c (s : List UInt8) : PCall Try.prog 28 [.str s] (.str (sizeB s.length)) := by
  refine PCall.run (Tab.zero_ok _) st28 (by simp) fun E => ?_
  simp (config := {maxSteps := 1000000}) only [s28, Int.natCast_nonneg, Nat.le_refl, Int.le_refl, List.take_succ_cons, List.take_zero, decide_true, decide_false, Bool.and_false, Bool.false_and, zz, zzN, zzF, fltEv, isArithF, ↓reduceIte, Nat.reduceEqDiff, Nat.reduceBEq, Int.reduceLT, Int.reduceLE, Int.reduceToNat, Int.reduceEq, Int.reduceAdd, Int.reduceSub, Int.reduceMul, Int.reduceNeg, Nat.reduceMul, Nat.reduceSub, Nat.reduceLeDiff, Nat.reduceLT, Int.reduceGT, Int.reduceBEq, Int.reduceBNe, reduceCtorEq, Nat.reduceAdd, Ins.map, Fr.ev, argFr, argE, binEv, intEv, shEv, strEv, unEv, Fr.mark, evRes, tup, lenD, lookupD, loadD, partD, storeD, cellsD, cellOk, setAt, objNe, objSame, eqEv, readEv, buildD, buildRows, rowsOf, elemsOf]
  intro e
  refine run_loop (X := Nat) (fun i => [(0, .str s), (3, .ptr e 1 0), (5, .int .i64 i)]) (fun i => AHeap.emp.set e (.cells (encC (sizeF s.length i)))) (fun i => 8 - i) (fun i => i ≤ 8) 0 (by simp) ?_ ?_ ?_
  · simp only [Int.natCast_nonneg, Nat.le_refl, Int.le_refl, List.take_succ_cons, List.take_zero, decide_true, decide_false, Bool.and_false, Bool.false_and, zz, zzN, zzF, fltEv, isArithF, ↓reduceIte, Nat.reduceEqDiff, Nat.reduceBEq, Int.reduceLT, Int.reduceLE, Int.reduceToNat, Int.reduceEq, Int.reduceAdd, Int.reduceSub, Int.reduceMul, Int.reduceNeg, Nat.reduceMul, Nat.reduceSub, Nat.reduceLeDiff, Nat.reduceLT, Int.reduceGT, Int.reduceBEq, Int.reduceBNe, reduceCtorEq, Nat.reduceAdd, Ins.map, Fr.ev, argFr, argE, binEv, intEv, shEv, strEv, unEv, Fr.mark, evRes, tup, lenD, lookupD, loadD, partD, storeD, cellsD, cellOk, setAt, objNe, objSame, eqEv, readEv, buildD, buildRows, rowsOf, elemsOf]
  · exact AHeap.sub_refl _
  intro i Q hi hQ
  have lo := len_sizeF s.length i
  by_cases c : i < 8
  · have g1 : ((i : Int) < 8) = True := eq_true (by omega)
    have wi : IntKind.i64.wrap ((i : Int) + 1) = ((i + 1 : Nat) : Int) := wrap_succ (by omega)
    have wm : IntKind.i64.wrap (8 * (i : Int)) = ((8 * i : Nat) : Int) := by rw [wrap_i64 (by omega) (by omega)]; omega
    have lm : (((8 * i : Nat) : Int) < 0) = False := eq_false (by omega)
    have c8 := conv_size s.length i c
    have f := sizeF_succ s.length i
    generalize sizeF s.length i = O at *
    generalize sizeAt s.length i = o at *
    simp (config := {maxSteps := 1000000}) only [g1, wi, wm, lm, c8, encC_set, len_encC, lo, Nat.mul_one, Int.natCast_nonneg, Nat.le_refl, Int.le_refl, List.take_succ_cons, List.take_zero, decide_true, decide_false, Bool.and_false, Bool.false_and, zz, zzN, zzF, fltEv, isArithF, ↓reduceIte, Nat.reduceEqDiff, Nat.reduceBEq, Int.reduceLT, Int.reduceLE, Int.reduceToNat, Int.reduceEq, Int.reduceAdd, Int.reduceSub, Int.reduceMul, Int.reduceNeg, Nat.reduceMul, Nat.reduceSub, Nat.reduceLeDiff, Nat.reduceLT, Int.reduceGT, Int.reduceBEq, Int.reduceBNe, reduceCtorEq, Nat.reduceAdd, Ins.map, Fr.ev, argFr, argE, binEv, intEv, shEv, strEv, unEv, Fr.mark, evRes, tup, lenD, lookupD, loadD, partD, storeD, cellsD, cellOk, setAt, objNe, objSame, eqEv, readEv, buildD, buildRows, rowsOf, elemsOf]
    intro _
    refine ⟨by omega, hQ (i + 1) _ _ (by omega) (by simp only [Int.natCast_nonneg, Nat.le_refl, Int.le_refl, List.take_succ_cons, List.take_zero, decide_true, decide_false, Bool.and_false, Bool.false_and, zz, zzN, zzF, fltEv, isArithF, ↓reduceIte, Nat.reduceEqDiff, Nat.reduceBEq, Int.reduceLT, Int.reduceLE, Int.reduceToNat, Int.reduceEq, Int.reduceAdd, Int.reduceSub, Int.reduceMul, Int.reduceNeg, Nat.reduceMul, Nat.reduceSub, Nat.reduceLeDiff, Nat.reduceLT, Int.reduceGT, Int.reduceBEq, Int.reduceBNe, reduceCtorEq, Nat.reduceAdd, Ins.map, Fr.ev, argFr, argE, binEv, intEv, shEv, strEv, unEv, Fr.mark, evRes, tup, lenD, lookupD, loadD, partD, storeD, cellsD, cellOk, setAt, objNe, objSame, eqEv, readEv, buildD, buildRows, rowsOf, elemsOf]) ?_ (by omega)⟩
    rw [f]
    exact AHeap.sub_refl _
  · have g1 : ((i : Int) < 8) = False := by simp; omega
    have hc : i = 8 := by omega
    subst hc
    have hs : sliceEv (.arr 8) (.ptr e 1 0) none none none = some (.csl e 0 8) := rfl
    rw [sizeF_all] at *
    generalize sizeB s.length = O at *
    have hc : ∀ (K E : D → AHeap → Prop), vcI Tab.zero (.conv .bytesStr (.csl e 0 8)) (AHeap.emp.set e (.cells (encC O))) K E = K (.str O) (AHeap.emp.set e (.cells (encC O))) := fun K E => i_str_cslC (by simp) lo
    simp (config := {maxSteps := 1000000}) only [g1, hs, hc, Int.natCast_nonneg, Nat.le_refl, Int.le_refl, List.take_succ_cons, List.take_zero, decide_true, decide_false, Bool.and_false, Bool.false_and, zz, zzN, zzF, fltEv, isArithF, ↓reduceIte, Nat.reduceEqDiff, Nat.reduceBEq, Int.reduceLT, Int.reduceLE, Int.reduceToNat, Int.reduceEq, Int.reduceAdd, Int.reduceSub, Int.reduceMul, Int.reduceNeg, Nat.reduceMul, Nat.reduceSub, Nat.reduceLeDiff, Nat.reduceLT, Int.reduceGT, Int.reduceBEq, Int.reduceBNe, reduceCtorEq, Nat.reduceAdd, Ins.map, Fr.ev, argFr, argE, binEv, intEv, shEv, strEv, unEv, Fr.mark, evRes, tup, lenD, lookupD, loadD, partD, storeD, cellsD, cellOk, setAt, objNe, objSame, eqEv, readEv, buildD, buildRows, rowsOf, elemsOf]
def q28 : List D → Option D
  | [.str s] => if True then some (.str (sizeB s.length)) else none
  | _ => none
theorem q28_ok (args : List D) (d : D) (h : q28 args = some d) : PCall Try.prog 28 args d := by
  unfold q28 at h
  split at h
  · split at h
    · cases h; exact size_c _
    · cases h
  · cases h

def tb28 : Tab := tb100.addQ 28 q28
theorem tb28_q (g : FuncId) (args : List D) : tb28.q g args = if g = 28 then q28 args else tb100.q g args := rfl
theorem tb28_a : tb28.a = tb100.a := rfl
theorem tb28_c : tb28.c = tb100.c := rfl
theorem tb28_ok : tb28.ok Try.prog := Tab.addQ_ok tb100_ok q28_ok
theorem tb28_e : type_of% (And.intro (And.intro @tb28_q (And.intro @tb28_a @tb28_c)) @tb100_e) := (And.intro (And.intro @tb28_q (And.intro @tb28_a @tb28_c)) @tb100_e)

theorem q28_eq (s : List UInt8) : q28 [.str s] = some (.str (sizeB s.length)) := rfl
def flatB (l : List (List UInt8)) : List UInt8 := l.flatMap fun s => s ++ sizeB s.length
def partsB (p : UInt8) (l : List (List UInt8)) : List UInt8 := flatB l ++ [p]
theorem flat_succ {l : List (List UInt8)} {i : Nat} {x : List UInt8} (h : l[i]? = some x) : flatB (l.take (i + 1)) = flatB (l.take i) ++ (x ++ sizeB x.length) := by
  obtain ⟨h1, h2⟩ := List.getElem?_eq_some_iff.1 h
  unfold flatB
  rw [List.take_succ_eq_append_getElem h1, List.flatMap_append, h2]
  simp
theorem flat_le (l : List (List UInt8)) (i : Nat) : (flatB (l.take i)).length ≤ (flatB l).length := by
  have e : flatB l = flatB (l.take i) ++ flatB (l.drop i) := by
    unfold flatB
    rw [← List.flatMap_append, List.take_append_drop]
  rw [e, List.length_append]
  omega
def sizeK (n k : Nat) : List UInt8 := (List.range k).map (sizeAt n)
theorem sizeK_succ (n k : Nat) : sizeK n (k + 1) = sizeK n k ++ [sizeAt n k] := by unfold sizeK; rw [List.range_succ, List.map_append]; rfl
theorem len_sizeK (n k : Nat) : (sizeK n k).length = k := by simp [sizeK]
theorem rem_size (n i : Nat) : IntKind.u8.wrap (Int.tmod ((n / 2 ^ (8 * i) : Nat) : Int) 256) = ((sizeAt n i).toNat : Int) := by
  have e : (sizeAt n i).toNat = n / 2 ^ (8 * i) % 256 := by
    unfold sizeAt
    rw [UInt8.toNat_ofNat']
    omega
  rw [e, wrap_u8]
  generalize n / 2 ^ (8 * i) = m
  have : Int.tmod (m : Int) 256 = ((m % 256 : Nat) : Int) := rfl
  rw [this]
  omega
theorem quo_size (n i : Nat) (h : n < 9223372036854775808) : IntKind.i64.wrap (Int.tdiv ((n / 2 ^ (8 * i) : Nat) : Int) 256) = ((n / 2 ^ (8 * (i + 1)) : Nat) : Int) := by
  have e : n / 2 ^ (8 * (i + 1)) = n / 2 ^ (8 * i) / 256 := by
    rw [Nat.div_div_eq_div_mul]
    congr 1
    rw [Nat.mul_add, Nat.pow_add]
  rw [e]
  have h2 : n / 2 ^ (8 * i) ≤ n := Nat.div_le_self _ _
  generalize n / 2 ^ (8 * i) = m at *
  have : Int.tdiv (m : Int) 256 = ((m / 256 : Nat) : Int) := rfl
  rw [this, wrap_i64 (by omega) (by omega)]
set_option maxHeartbeats 4000000 in
theorem parts_c (p : UInt8) (l : List (List UInt8)) (hl : (partsB p l).length ≤ 9000000000000000000) : PCall Try.prog 21 [.int .u8 p.toNat, .sl (encS l)] (.str (partsB p l)) := by
  refine PCall.run tb28_ok st21 (by simp) fun E => ?_
  have hp : (partsB p l).length = (flatB l).length + 1 := by simp [partsB]
  have ls : (encS l).length = l.length := len_encS
  simp (config := {maxSteps := 1000000}) only [s21, tb10_e, tb28_e, Int.natCast_nonneg, Nat.le_refl, Int.le_refl, List.take_succ_cons, List.take_zero, decide_true, decide_false, Bool.and_false, Bool.false_and, zz, zzN, zzF, fltEv, isArithF, ↓reduceIte, Nat.reduceEqDiff, Nat.reduceBEq, Int.reduceLT, Int.reduceLE, Int.reduceToNat, Int.reduceEq, Int.reduceAdd, Int.reduceSub, Int.reduceMul, Int.reduceNeg, Nat.reduceMul, Nat.reduceSub, Nat.reduceLeDiff, Nat.reduceLT, Int.reduceGT, Int.reduceBEq, Int.reduceBNe, reduceCtorEq, Nat.reduceAdd, Ins.map, Fr.ev, argFr, argE, binEv, intEv, shEv, strEv, unEv, Fr.mark, evRes, tup, lenD, lookupD, loadD, partD, storeD, cellsD, cellOk, setAt, objNe, objSame, eqEv, readEv, buildD, buildRows, rowsOf, elemsOf]
  refine run_loop (X := Nat) (fun i => [(0, .int .u8 p.toNat), (1, .sl (encS l)), (5, .str (flatB (l.take i))), (6, .int .i64 i)]) (fun i => .emp) (fun i => l.length - i) (fun i => i ≤ l.length) 0 (by simp) ?_ (AHeap.sub_refl _) ?_
  · have e0 : flatB [] = [] := rfl
    simp only [e0, Int.natCast_nonneg, Nat.le_refl, Int.le_refl, List.take_succ_cons, List.take_zero, decide_true, decide_false, Bool.and_false, Bool.false_and, zz, zzN, zzF, fltEv, isArithF, ↓reduceIte, Nat.reduceEqDiff, Nat.reduceBEq, Int.reduceLT, Int.reduceLE, Int.reduceToNat, Int.reduceEq, Int.reduceAdd, Int.reduceSub, Int.reduceMul, Int.reduceNeg, Nat.reduceMul, Nat.reduceSub, Nat.reduceLeDiff, Nat.reduceLT, Int.reduceGT, Int.reduceBEq, Int.reduceBNe, reduceCtorEq, Nat.reduceAdd, Ins.map, Fr.ev, argFr, argE, binEv, intEv, shEv, strEv, unEv, Fr.mark, evRes, tup, lenD, lookupD, loadD, partD, storeD, cellsD, cellOk, setAt, objNe, objSame, eqEv, readEv, buildD, buildRows, rowsOf, elemsOf]
  intro i Q hi hQ
  have hb := flat_le l (i + 1)
  have hb0 := flat_le l i
  by_cases c : i < l.length
  · have g1 : ((i : Int) < (l.length : Int)) = True := eq_true (by omega)
    obtain ⟨x, e⟩ : ∃ x, l[i]? = some x := ⟨l[i], List.getElem?_eq_getElem c⟩
    have ae : ∀ (K : D → AHeap → Prop) (h : AHeap), askE 1 K h (encS l) (i : Int) = K (.eptr [.str x] 0) h := fun K h => askE_strs e
    have f := flat_succ e
    rw [f] at hb
    simp only [List.length_append, len_sizeB] at hb
    generalize flatB (l.take i) = A at *
    have hs : (A.length + x.length ≤ 9223372036854775807) = True := eq_true (by omega)
    simp (config := {maxSteps := 1000000}) only [ls, g1, ae, hs, tb10_e, tb28_e, Int.natCast_nonneg, Nat.le_refl, Int.le_refl, List.take_succ_cons, List.take_zero, decide_true, decide_false, Bool.and_false, Bool.false_and, zz, zzN, zzF, fltEv, isArithF, ↓reduceIte, Nat.reduceEqDiff, Nat.reduceBEq, Int.reduceLT, Int.reduceLE, Int.reduceToNat, Int.reduceEq, Int.reduceAdd, Int.reduceSub, Int.reduceMul, Int.reduceNeg, Nat.reduceMul, Nat.reduceSub, Nat.reduceLeDiff, Nat.reduceLT, Int.reduceGT, Int.reduceBEq, Int.reduceBNe, reduceCtorEq, Nat.reduceAdd, Ins.map, Fr.ev, argFr, argE, binEv, intEv, shEv, strEv, unEv, Fr.mark, evRes, tup, lenD, lookupD, loadD, partD, storeD, cellsD, cellOk, setAt, objNe, objSame, eqEv, readEv, buildD, buildRows, rowsOf, elemsOf]
    intro hl' hx
    refine run_loop (X := Nat) (fun k => [(0, .int .u8 p.toNat), (1, .sl (encS l)), (5, .str (A ++ x ++ sizeK x.length k)), (6, .int .i64 i), (7, .int .i64 (x.length / 2 ^ (8 * k) : Nat)), (8, .int .i64 k)]) (fun k => .emp) (fun k => 8 - k) (fun k => k ≤ 8) 0 (by simp) ?_ (AHeap.sub_refl _) ?_
    · have e0 : A ++ x ++ sizeK x.length 0 = A ++ x := by simp [sizeK]
      have e1 : x.length / 2 ^ (8 * 0) = x.length := by simp
      simp only [e0, e1, Int.natCast_nonneg, Nat.le_refl, Int.le_refl, List.take_succ_cons, List.take_zero, decide_true, decide_false, Bool.and_false, Bool.false_and, zz, zzN, zzF, fltEv, isArithF, ↓reduceIte, Nat.reduceEqDiff, Nat.reduceBEq, Int.reduceLT, Int.reduceLE, Int.reduceToNat, Int.reduceEq, Int.reduceAdd, Int.reduceSub, Int.reduceMul, Int.reduceNeg, Nat.reduceMul, Nat.reduceSub, Nat.reduceLeDiff, Nat.reduceLT, Int.reduceGT, Int.reduceBEq, Int.reduceBNe, reduceCtorEq, Nat.reduceAdd, Ins.map, Fr.ev, argFr, argE, binEv, intEv, shEv, strEv, unEv, Fr.mark, evRes, tup, lenD, lookupD, loadD, partD, storeD, cellsD, cellOk, setAt, objNe, objSame, eqEv, readEv, buildD, buildRows, rowsOf, elemsOf]
    intro k Q2 hk hQ2
    have lk := len_sizeK x.length k
    by_cases c2 : k < 8
    · have g2 : ((k : Int) < 8) = True := eq_true (by omega)
      have wk : IntKind.i64.wrap ((k : Int) + 1) = ((k + 1 : Nat) : Int) := wrap_succ (by omega)
      have r := rem_size x.length k
      have q := quo_size x.length k (by omega)
      have f2 := sizeK_succ x.length k
      generalize x.length / 2 ^ (8 * k) = m at *
      generalize hm2 : x.length / 2 ^ (8 * (k + 1)) = m2 at *
      generalize sizeK x.length k = O at *
      generalize sizeAt x.length k = o at *
      have eo : UInt8.ofNat ((o.toNat : Int)).toNat = o := by simp
      have ho : (A.length + x.length + O.length + 1 ≤ 9223372036854775807) = True := eq_true (by omega)
      simp (config := {maxSteps := 1000000}) only [g2, wk, r, q, eo, ho, List.length_append, tb10_e, tb28_e, Int.natCast_nonneg, Nat.le_refl, Int.le_refl, List.take_succ_cons, List.take_zero, decide_true, decide_false, Bool.and_false, Bool.false_and, zz, zzN, zzF, fltEv, isArithF, ↓reduceIte, Nat.reduceEqDiff, Nat.reduceBEq, Int.reduceLT, Int.reduceLE, Int.reduceToNat, Int.reduceEq, Int.reduceAdd, Int.reduceSub, Int.reduceMul, Int.reduceNeg, Nat.reduceMul, Nat.reduceSub, Nat.reduceLeDiff, Nat.reduceLT, Int.reduceGT, Int.reduceBEq, Int.reduceBNe, reduceCtorEq, Nat.reduceAdd, Ins.map, Fr.ev, argFr, argE, binEv, intEv, shEv, strEv, unEv, Fr.mark, evRes, tup, lenD, lookupD, loadD, partD, storeD, cellsD, cellOk, setAt, objNe, objSame, eqEv, readEv, buildD, buildRows, rowsOf, elemsOf]
      exact hQ2 (k + 1) _ _ (by omega) (by simp only [f2, hm2, UInt8.ofNat_toNat, List.append_assoc, Int.natCast_nonneg, Nat.le_refl, Int.le_refl, List.take_succ_cons, List.take_zero, decide_true, decide_false, Bool.and_false, Bool.false_and, zz, zzN, zzF, fltEv, isArithF, ↓reduceIte, Nat.reduceEqDiff, Nat.reduceBEq, Int.reduceLT, Int.reduceLE, Int.reduceToNat, Int.reduceEq, Int.reduceAdd, Int.reduceSub, Int.reduceMul, Int.reduceNeg, Nat.reduceMul, Nat.reduceSub, Nat.reduceLeDiff, Nat.reduceLT, Int.reduceGT, Int.reduceBEq, Int.reduceBNe, reduceCtorEq, Nat.reduceAdd, Ins.map, Fr.ev, argFr, argE, binEv, intEv, shEv, strEv, unEv, Fr.mark, evRes, tup, lenD, lookupD, loadD, partD, storeD, cellsD, cellOk, setAt, objNe, objSame, eqEv, readEv, buildD, buildRows, rowsOf, elemsOf]) (AHeap.sub_refl _) (by omega)
    · have g2 : ((k : Int) < 8) = False := eq_false (by omega)
      have hc : k = 8 := by omega
      subst hc
      have wi : IntKind.i64.wrap ((i : Int) + 1) = ((i + 1 : Nat) : Int) := wrap_succ (by omega)
      have e8 : sizeK x.length 8 = sizeB x.length := rfl
      simp (config := {maxSteps := 1000000}) only [g2, wi, e8, tb10_e, tb28_e, Int.natCast_nonneg, Nat.le_refl, Int.le_refl, List.take_succ_cons, List.take_zero, decide_true, decide_false, Bool.and_false, Bool.false_and, zz, zzN, zzF, fltEv, isArithF, ↓reduceIte, Nat.reduceEqDiff, Nat.reduceBEq, Int.reduceLT, Int.reduceLE, Int.reduceToNat, Int.reduceEq, Int.reduceAdd, Int.reduceSub, Int.reduceMul, Int.reduceNeg, Nat.reduceMul, Nat.reduceSub, Nat.reduceLeDiff, Nat.reduceLT, Int.reduceGT, Int.reduceBEq, Int.reduceBNe, reduceCtorEq, Nat.reduceAdd, Ins.map, Fr.ev, argFr, argE, binEv, intEv, shEv, strEv, unEv, Fr.mark, evRes, tup, lenD, lookupD, loadD, partD, storeD, cellsD, cellOk, setAt, objNe, objSame, eqEv, readEv, buildD, buildRows, rowsOf, elemsOf]
      exact hQ (i + 1) _ _ (by omega) (by simp only [f, List.append_assoc, Int.natCast_nonneg, Nat.le_refl, Int.le_refl, List.take_succ_cons, List.take_zero, decide_true, decide_false, Bool.and_false, Bool.false_and, zz, zzN, zzF, fltEv, isArithF, ↓reduceIte, Nat.reduceEqDiff, Nat.reduceBEq, Int.reduceLT, Int.reduceLE, Int.reduceToNat, Int.reduceEq, Int.reduceAdd, Int.reduceSub, Int.reduceMul, Int.reduceNeg, Nat.reduceMul, Nat.reduceSub, Nat.reduceLeDiff, Nat.reduceLT, Int.reduceGT, Int.reduceBEq, Int.reduceBNe, reduceCtorEq, Nat.reduceAdd, Ins.map, Fr.ev, argFr, argE, binEv, intEv, shEv, strEv, unEv, Fr.mark, evRes, tup, lenD, lookupD, loadD, partD, storeD, cellsD, cellOk, setAt, objNe, objSame, eqEv, readEv, buildD, buildRows, rowsOf, elemsOf]) (AHeap.sub_refl _) (by omega)
  · have g1 : ((i : Int) < (l.length : Int)) = False := eq_false (by omega)
    have hc : i = l.length := by omega
    subst hc
    rw [List.take_length] at *
    have ep : partsB p l = flatB l ++ [p] := rfl
    have eo : UInt8.ofNat ((p.toNat : Int)).toNat = p := by simp
    have ho : ((flatB l).length + 1 ≤ 9223372036854775807) = True := eq_true (by omega)
    simp (config := {maxSteps := 1000000}) only [ls, g1, ho, eo, UInt8.ofNat_toNat, tb10_e, tb28_e, Int.natCast_nonneg, Nat.le_refl, Int.le_refl, List.take_succ_cons, List.take_zero, decide_true, decide_false, Bool.and_false, Bool.false_and, zz, zzN, zzF, fltEv, isArithF, ↓reduceIte, Nat.reduceEqDiff, Nat.reduceBEq, Int.reduceLT, Int.reduceLE, Int.reduceToNat, Int.reduceEq, Int.reduceAdd, Int.reduceSub, Int.reduceMul, Int.reduceNeg, Nat.reduceMul, Nat.reduceSub, Nat.reduceLeDiff, Nat.reduceLT, Int.reduceGT, Int.reduceBEq, Int.reduceBNe, reduceCtorEq, Nat.reduceAdd, Ins.map, Fr.ev, argFr, argE, binEv, intEv, shEv, strEv, unEv, Fr.mark, evRes, tup, lenD, lookupD, loadD, partD, storeD, cellsD, cellOk, setAt, objNe, objSame, eqEv, readEv, buildD, buildRows, rowsOf, elemsOf]
    intro _
    exact .inl rfl
theorem u8_of (p : Int) (h : 0 ≤ p ∧ p ≤ 255) : ((UInt8.ofNat p.toNat).toNat : Int) = p := by
  rw [UInt8.toNat_ofNat']; omega
theorem parts_i (p : Int) (l : List (List UInt8)) (h : 0 ≤ p ∧ p ≤ 255 ∧ (partsB (UInt8.ofNat p.toNat) l).length ≤ 9000000000000000000) : PCall Try.prog 21 [.int .u8 p, .sl (encS l)] (.str (partsB (UInt8.ofNat p.toNat) l)) := by
  have := parts_c (UInt8.ofNat p.toNat) l h.2.2
  rw [u8_of p ⟨h.1, h.2.1⟩] at this
  exact this
def okP (p : Int) (l : List (List UInt8)) : Prop := 0 ≤ p ∧ p ≤ 255 ∧ (partsB (UInt8.ofNat p.toNat) l).length ≤ 9000000000000000000
instance (p : Int) (l : List (List UInt8)) : Decidable (okP p l) := by unfold okP; infer_instance
def q21 : List D → Option D
  | [.int .u8 p, .sl l'] => match decS l' with
    | some l => if okP p l then some (.str (partsB (UInt8.ofNat p.toNat) l)) else none
    | _ => none
  | _ => none
theorem q21_ok (args : List D) (d : D) (h : q21 args = some d) : PCall Try.prog 21 args d := by
  unfold q21 at h
  split at h
  · split at h
    · rename_i e0
      cases decS_some e0
      split at h
      · cases h; exact parts_i _ _ (by assumption)
      · cases h
    · cases h
  · cases h

def tb21 : Tab := tb28.addQ 21 q21
theorem tb21_q (g : FuncId) (args : List D) : tb21.q g args = if g = 21 then q21 args else tb28.q g args := rfl
theorem tb21_a : tb21.a = tb28.a := rfl
theorem tb21_c : tb21.c = tb28.c := rfl
theorem tb21_ok : tb21.ok Try.prog := Tab.addQ_ok tb28_ok q21_ok
theorem tb21_e : type_of% (And.intro (And.intro @tb21_q (And.intro @tb21_a @tb21_c)) @tb28_e) := (And.intro (And.intro @tb21_q (And.intro @tb21_a @tb21_c)) @tb28_e)

theorem q21_eq {p : Int} {l : List (List UInt8)} (h : okP p l) : q21 [.int .u8 p, .sl (encS l)] = some (.str (partsB (UInt8.ofNat p.toNat) l)) := by
  simp only [q21, decS_enc]
  rw [if_pos h]
theorem refTagged_c (p : Int) (l : List (List UInt8)) (h : okP p l) : PCall Try.prog 20 [.int .u8 p, .sl (encS l)] (.str (shaB (partsB (UInt8.ofNat p.toNat) l))) := by
  refine PCall.run tb21_ok st20 (by simp) fun E => ?_
  have q := q21_eq h
  have q2 := q13_eq h.2.2
  simp (config := {maxSteps := 1000000}) only [s20, q, q2, tb10_e, tb21_e, Int.natCast_nonneg, Nat.le_refl, Int.le_refl, List.take_succ_cons, List.take_zero, decide_true, decide_false, Bool.and_false, Bool.false_and, zz, zzN, zzF, fltEv, isArithF, ↓reduceIte, Nat.reduceEqDiff, Nat.reduceBEq, Int.reduceLT, Int.reduceLE, Int.reduceToNat, Int.reduceEq, Int.reduceAdd, Int.reduceSub, Int.reduceMul, Int.reduceNeg, Nat.reduceMul, Nat.reduceSub, Nat.reduceLeDiff, Nat.reduceLT, Int.reduceGT, Int.reduceBEq, Int.reduceBNe, reduceCtorEq, Nat.reduceAdd, Ins.map, Fr.ev, argFr, argE, binEv, intEv, shEv, strEv, unEv, Fr.mark, evRes, tup, lenD, lookupD, loadD, partD, storeD, cellsD, cellOk, setAt, objNe, objSame, eqEv, readEv, buildD, buildRows, rowsOf, elemsOf]
def q20 : List D → Option D
  | [.int .u8 p, .sl l'] => match decS l' with
    | some l => if okP p l then some (.str (shaB (partsB (UInt8.ofNat p.toNat) l))) else none
    | _ => none
  | _ => none
theorem q20_ok (args : List D) (d : D) (h : q20 args = some d) : PCall Try.prog 20 args d := by
  unfold q20 at h
  split at h
  · split at h
    · rename_i e0
      cases decS_some e0
      split at h
      · cases h; exact refTagged_c _ _ (by assumption)
      · cases h
    · cases h
  · cases h

def tb20 : Tab := tb21.addQ 20 q20
theorem tb20_q (g : FuncId) (args : List D) : tb20.q g args = if g = 20 then q20 args else tb21.q g args := rfl
theorem tb20_a : tb20.a = tb21.a := rfl
theorem tb20_c : tb20.c = tb21.c := rfl
theorem tb20_ok : tb20.ok Try.prog := Tab.addQ_ok tb21_ok q20_ok
theorem tb20_e : type_of% (And.intro (And.intro @tb20_q (And.intro @tb20_a @tb20_c)) @tb21_e) := (And.intro (And.intro @tb20_q (And.intro @tb20_a @tb20_c)) @tb21_e)

theorem q20_eq {p : Int} {l : List (List UInt8)} (h : okP p l) : q20 [.int .u8 p, .sl (encS l)] = some (.str (shaB (partsB (UInt8.ofNat p.toNat) l))) := by
  simp only [q20, decS_enc]
  rw [if_pos h]
set_option maxHeartbeats 4000000 in
theorem tagged_c (p : Int) (l : List (List UInt8)) (h : okP p l) : PCall Try.prog 19 [.int .u8 p, .sl (encS l)] (.str (shaB (partsB (UInt8.ofNat p.toNat) l))) := by
  refine PCall.run tb20_ok st19 (by simp) fun E => ?_
  have ls : (encS l).length = l.length := len_encS
  have e0 : writeS (zW, 0) (flatB (l.take 0)) = (zW, 0) := rfl
  have e1 : flatB (l.take 0) = [] := rfl
  simp (config := {maxSteps := 1000000}) only [s19, ls, tb10_e, tb20_e, Int.natCast_nonneg, Nat.le_refl, Int.le_refl, List.take_succ_cons, List.take_zero, decide_true, decide_false, Bool.and_false, Bool.false_and, zz, zzN, zzF, fltEv, isArithF, ↓reduceIte, Nat.reduceEqDiff, Nat.reduceBEq, Int.reduceLT, Int.reduceLE, Int.reduceToNat, Int.reduceEq, Int.reduceAdd, Int.reduceSub, Int.reduceMul, Int.reduceNeg, Nat.reduceMul, Nat.reduceSub, Nat.reduceLeDiff, Nat.reduceLT, Int.reduceGT, Int.reduceBEq, Int.reduceBNe, reduceCtorEq, Nat.reduceAdd, Ins.map, Fr.ev, argFr, argE, binEv, intEv, shEv, strEv, unEv, Fr.mark, evRes, tup, lenD, lookupD, loadD, partD, storeD, cellsD, cellOk, setAt, objNe, objSame, eqEv, readEv, buildD, buildRows, rowsOf, elemsOf]
  intro id hl
  refine run_loop (X := Nat) (fun i => [(0, .int .u8 p), (5, .ptr id 1 0), (9, .sl (encS l)), (10, .int .i64 l.length), (11, .int .i64 i)]) (fun i => AHeap.emp.set id (.cells (encG (writeS (zW, 0) (flatB (l.take i)))))) (fun i => l.length - i) (fun i => i ≤ l.length) 0 (by simp) ?_ ?_ ?_
  · simp only [Int.natCast_nonneg, Nat.le_refl, Int.le_refl, List.take_succ_cons, List.take_zero, decide_true, decide_false, Bool.and_false, Bool.false_and, zz, zzN, zzF, fltEv, isArithF, ↓reduceIte, Nat.reduceEqDiff, Nat.reduceBEq, Int.reduceLT, Int.reduceLE, Int.reduceToNat, Int.reduceEq, Int.reduceAdd, Int.reduceSub, Int.reduceMul, Int.reduceNeg, Nat.reduceMul, Nat.reduceSub, Nat.reduceLeDiff, Nat.reduceLT, Int.reduceGT, Int.reduceBEq, Int.reduceBNe, reduceCtorEq, Nat.reduceAdd, Ins.map, Fr.ev, argFr, argE, binEv, intEv, shEv, strEv, unEv, Fr.mark, evRes, tup, lenD, lookupD, loadD, partD, storeD, cellsD, cellOk, setAt, objNe, objSame, eqEv, readEv, buildD, buildRows, rowsOf, elemsOf]
  · rw [e0]; exact AHeap.sub_refl _
  intro i Q hi hQ
  have ho := writeS_ok (l := flatB (l.take i)) zW_ok.1 zW_ok.2
  by_cases c : i < l.length
  · have g1 : ((i : Int) < (l.length : Int)) = True := eq_true (by omega)
    have wi : IntKind.i64.wrap ((i : Int) + 1) = ((i + 1 : Nat) : Int) := wrap_succ (by omega)
    obtain ⟨x, e⟩ : ∃ x, l[i]? = some x := ⟨l[i], List.getElem?_eq_getElem c⟩
    have ae : ∀ (K : D → AHeap → Prop) (h : AHeap), askE 1 K h (encS l) (i : Int) = K (.eptr [.str x] 0) h := fun K h => askE_strs e
    have f := flat_succ e
    have fw1 := writeS_app (zW, 0) (flatB (l.take i)) x
    have fw2 := writeS_app (zW, 0) (flatB (l.take i) ++ x) (sizeB x.length)
    have ho1 := writeS_ok (l := flatB (l.take i) ++ x) zW_ok.1 zW_ok.2
    rw [List.append_assoc, ← f] at fw2
    generalize flatB (l.take i) = A at *
    simp (config := {maxSteps := 1000000}) only [ls, g1, ae, tb10_e, tb20_e, Int.natCast_nonneg, Nat.le_refl, Int.le_refl, List.take_succ_cons, List.take_zero, decide_true, decide_false, Bool.and_false, Bool.false_and, zz, zzN, zzF, fltEv, isArithF, ↓reduceIte, Nat.reduceEqDiff, Nat.reduceBEq, Int.reduceLT, Int.reduceLE, Int.reduceToNat, Int.reduceEq, Int.reduceAdd, Int.reduceSub, Int.reduceMul, Int.reduceNeg, Nat.reduceMul, Nat.reduceSub, Nat.reduceLeDiff, Nat.reduceLT, Int.reduceGT, Int.reduceBEq, Int.reduceBNe, reduceCtorEq, Nat.reduceAdd, Ins.map, Fr.ev, argFr, argE, binEv, intEv, shEv, strEv, unEv, Fr.mark, evRes, tup, lenD, lookupD, loadD, partD, storeD, cellsD, cellOk, setAt, objNe, objSame, eqEv, readEv, buildD, buildRows, rowsOf, elemsOf]
    refine .inl ⟨id, writeS (zW, 0) A, x, rfl, by simp, ho.1, ho.2, ?_⟩
    rw [← fw1, AHeap.set_set]
    generalize writeS (zW, 0) (A ++ x) = S at *
    simp (config := {maxSteps := 1000000}) only [ls, g1, ae, q28_eq, tb10_e, tb20_e, Int.natCast_nonneg, Nat.le_refl, Int.le_refl, List.take_succ_cons, List.take_zero, decide_true, decide_false, Bool.and_false, Bool.false_and, zz, zzN, zzF, fltEv, isArithF, ↓reduceIte, Nat.reduceEqDiff, Nat.reduceBEq, Int.reduceLT, Int.reduceLE, Int.reduceToNat, Int.reduceEq, Int.reduceAdd, Int.reduceSub, Int.reduceMul, Int.reduceNeg, Nat.reduceMul, Nat.reduceSub, Nat.reduceLeDiff, Nat.reduceLT, Int.reduceGT, Int.reduceBEq, Int.reduceBNe, reduceCtorEq, Nat.reduceAdd, Ins.map, Fr.ev, argFr, argE, binEv, intEv, shEv, strEv, unEv, Fr.mark, evRes, tup, lenD, lookupD, loadD, partD, storeD, cellsD, cellOk, setAt, objNe, objSame, eqEv, readEv, buildD, buildRows, rowsOf, elemsOf]
    refine .inl ⟨id, S, _, rfl, by simp, ho1.1, ho1.2, ?_⟩
    rw [← fw2, AHeap.set_set]
    simp (config := {maxSteps := 1000000}) only [wi, tb10_e, tb20_e, Int.natCast_nonneg, Nat.le_refl, Int.le_refl, List.take_succ_cons, List.take_zero, decide_true, decide_false, Bool.and_false, Bool.false_and, zz, zzN, zzF, fltEv, isArithF, ↓reduceIte, Nat.reduceEqDiff, Nat.reduceBEq, Int.reduceLT, Int.reduceLE, Int.reduceToNat, Int.reduceEq, Int.reduceAdd, Int.reduceSub, Int.reduceMul, Int.reduceNeg, Nat.reduceMul, Nat.reduceSub, Nat.reduceLeDiff, Nat.reduceLT, Int.reduceGT, Int.reduceBEq, Int.reduceBNe, reduceCtorEq, Nat.reduceAdd, Ins.map, Fr.ev, argFr, argE, binEv, intEv, shEv, strEv, unEv, Fr.mark, evRes, tup, lenD, lookupD, loadD, partD, storeD, cellsD, cellOk, setAt, objNe, objSame, eqEv, readEv, buildD, buildRows, rowsOf, elemsOf]
    exact hQ (i + 1) _ _ (by omega) (by simp only [Int.natCast_nonneg, Nat.le_refl, Int.le_refl, List.take_succ_cons, List.take_zero, decide_true, decide_false, Bool.and_false, Bool.false_and, zz, zzN, zzF, fltEv, isArithF, ↓reduceIte, Nat.reduceEqDiff, Nat.reduceBEq, Int.reduceLT, Int.reduceLE, Int.reduceToNat, Int.reduceEq, Int.reduceAdd, Int.reduceSub, Int.reduceMul, Int.reduceNeg, Nat.reduceMul, Nat.reduceSub, Nat.reduceLeDiff, Nat.reduceLT, Int.reduceGT, Int.reduceBEq, Int.reduceBNe, reduceCtorEq, Nat.reduceAdd, Ins.map, Fr.ev, argFr, argE, binEv, intEv, shEv, strEv, unEv, Fr.mark, evRes, tup, lenD, lookupD, loadD, partD, storeD, cellsD, cellOk, setAt, objNe, objSame, eqEv, readEv, buildD, buildRows, rowsOf, elemsOf]) (AHeap.sub_refl _) (by omega)
  · have g1 : ((i : Int) < (l.length : Int)) = False := eq_false (by omega)
    have hc : i = l.length := by omega
    subst hc
    rw [List.take_length] at *
    have f1 : putS (writeS (zW, 0) (flatB l)) (UInt8.ofNat p.toNat) = writeS (zW, 0) (partsB (UInt8.ofNat p.toNat) l) := by
      unfold partsB
      rw [writeS_app]
      rfl
    have ho2 := writeS_ok (l := partsB (UInt8.ofNat p.toNat) l) zW_ok.1 zW_ok.2
    have fs : sumS (writeS (zW, 0) (partsB (UInt8.ofNat p.toNat) l)) = shaB (partsB (UInt8.ofNat p.toNat) l) := rfl
    generalize writeS (zW, 0) (flatB l) = S at *
    simp (config := {maxSteps := 1000000}) only [g1, tb10_e, tb20_e, Int.natCast_nonneg, Nat.le_refl, Int.le_refl, List.take_succ_cons, List.take_zero, decide_true, decide_false, Bool.and_false, Bool.false_and, zz, zzN, zzF, fltEv, isArithF, ↓reduceIte, Nat.reduceEqDiff, Nat.reduceBEq, Int.reduceLT, Int.reduceLE, Int.reduceToNat, Int.reduceEq, Int.reduceAdd, Int.reduceSub, Int.reduceMul, Int.reduceNeg, Nat.reduceMul, Nat.reduceSub, Nat.reduceLeDiff, Nat.reduceLT, Int.reduceGT, Int.reduceBEq, Int.reduceBNe, reduceCtorEq, Nat.reduceAdd, Ins.map, Fr.ev, argFr, argE, binEv, intEv, shEv, strEv, unEv, Fr.mark, evRes, tup, lenD, lookupD, loadD, partD, storeD, cellsD, cellOk, setAt, objNe, objSame, eqEv, readEv, buildD, buildRows, rowsOf, elemsOf]
    refine ⟨id, S, UInt8.ofNat p.toNat, by rw [u8_of p ⟨h.1, h.2.1⟩], by simp, ho.1, ho.2, ?_⟩
    rw [AHeap.set_set, f1]
    generalize writeS (zW, 0) (partsB (UInt8.ofNat p.toNat) l) = S2 at *
    simp (config := {maxSteps := 1000000}) only [tb10_e, tb20_e, Int.natCast_nonneg, Nat.le_refl, Int.le_refl, List.take_succ_cons, List.take_zero, decide_true, decide_false, Bool.and_false, Bool.false_and, zz, zzN, zzF, fltEv, isArithF, ↓reduceIte, Nat.reduceEqDiff, Nat.reduceBEq, Int.reduceLT, Int.reduceLE, Int.reduceToNat, Int.reduceEq, Int.reduceAdd, Int.reduceSub, Int.reduceMul, Int.reduceNeg, Nat.reduceMul, Nat.reduceSub, Nat.reduceLeDiff, Nat.reduceLT, Int.reduceGT, Int.reduceBEq, Int.reduceBNe, reduceCtorEq, Nat.reduceAdd, Ins.map, Fr.ev, argFr, argE, binEv, intEv, shEv, strEv, unEv, Fr.mark, evRes, tup, lenD, lookupD, loadD, partD, storeD, cellsD, cellOk, setAt, objNe, objSame, eqEv, readEv, buildD, buildRows, rowsOf, elemsOf]
    refine .inl ⟨id, S2, rfl, by simp, ho2.1, ho2.2, ?_⟩
    simp (config := {maxSteps := 1000000}) only [fs, tb10_e, tb20_e, Int.natCast_nonneg, Nat.le_refl, Int.le_refl, List.take_succ_cons, List.take_zero, decide_true, decide_false, Bool.and_false, Bool.false_and, zz, zzN, zzF, fltEv, isArithF, ↓reduceIte, Nat.reduceEqDiff, Nat.reduceBEq, Int.reduceLT, Int.reduceLE, Int.reduceToNat, Int.reduceEq, Int.reduceAdd, Int.reduceSub, Int.reduceMul, Int.reduceNeg, Nat.reduceMul, Nat.reduceSub, Nat.reduceLeDiff, Nat.reduceLT, Int.reduceGT, Int.reduceBEq, Int.reduceBNe, reduceCtorEq, Nat.reduceAdd, Ins.map, Fr.ev, argFr, argE, binEv, intEv, shEv, strEv, unEv, Fr.mark, evRes, tup, lenD, lookupD, loadD, partD, storeD, cellsD, cellOk, setAt, objNe, objSame, eqEv, readEv, buildD, buildRows, rowsOf, elemsOf]
def q19 : List D → Option D
  | [.int .u8 p, .sl l'] => match decS l' with
    | some l => if okP p l then some (.str (shaB (partsB (UInt8.ofNat p.toNat) l))) else none
    | _ => none
  | _ => none
theorem q19_ok (args : List D) (d : D) (h : q19 args = some d) : PCall Try.prog 19 args d := by
  unfold q19 at h
  split at h
  · split at h
    · rename_i e0
      cases decS_some e0
      split at h
      · cases h; exact tagged_c _ _ (by assumption)
      · cases h
    · cases h
  · cases h

def tb19 : Tab := tb20.addQ 19 q19
theorem tb19_q (g : FuncId) (args : List D) : tb19.q g args = if g = 19 then q19 args else tb20.q g args := rfl
theorem tb19_a : tb19.a = tb20.a := rfl
theorem tb19_c : tb19.c = tb20.c := rfl
theorem tb19_ok : tb19.ok Try.prog := Tab.addQ_ok tb20_ok q19_ok
theorem tb19_e : type_of% (And.intro (And.intro @tb19_q (And.intro @tb19_a @tb19_c)) @tb20_e) := (And.intro (And.intro @tb19_q (And.intro @tb19_a @tb19_c)) @tb20_e)

theorem q19_eq {p : Int} {l : List (List UInt8)} (h : okP p l) : q19 [.int .u8 p, .sl (encS l)] = some (.str (shaB (partsB (UInt8.ofNat p.toNat) l))) := by
  simp only [q19, decS_enc]
  rw [if_pos h]
end Go.Proofs.Ytiilnakenlegmaa.Zz
