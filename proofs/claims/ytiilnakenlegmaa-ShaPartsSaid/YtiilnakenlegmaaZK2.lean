/- Contracts: the numbers of the rounds, the turns, the columns. -/
import Derived.Test.YtiilnakenlegmaaZK1
namespace Go.Proofs.Ytiilnakenlegmaa.Zz
set_option linter.unusedVariables false
set_option linter.unusedSimpArgs false
set_option maxRecDepth 20000
def p22 : Plan := ⟨⟨[], [], [], [], [], []⟩, []⟩
/-- cupel/sha.rounds (0 parameters, 0 captured) -/
def s22 : Stm :=
  .seq (.ops [⟨.alloc [(.int .u64 0), (.int .u64 0), (.int .u64 0), (.int .u64 0), (.int .u64 0), (.int .u64 0), (.int .u64 0), (.int .u64 0), (.int .u64 0), (.int .u64 0), (.int .u64 0), (.int .u64 0), (.int .u64 0), (.int .u64 0), (.int .u64 0), (.int .u64 0), (.int .u64 0), (.int .u64 0), (.int .u64 0), (.int .u64 0), (.int .u64 0), (.int .u64 0), (.int .u64 0), (.int .u64 0)], (some 0), none, false⟩])
  (.seq (.ops [⟨.build [(.int .u64 0), (.int .u64 0), (.int .u64 0), (.int .u64 0), (.int .u64 0), (.int .u64 0), (.int .u64 0), (.int .u64 0), (.int .u64 0), (.int .u64 0), (.int .u64 0), (.int .u64 0), (.int .u64 0), (.int .u64 0), (.int .u64 0), (.int .u64 0), (.int .u64 0), (.int .u64 0), (.int .u64 0), (.int .u64 0), (.int .u64 0), (.int .u64 0), (.int .u64 0), (.int .u64 0)] [(0, 1, (.c (.int .u64 1))), (1, 1, (.c (.int .u64 32898))), (2, 1, (.c (.int .u64 9223372036854808714))), (3, 1, (.c (.int .u64 9223372039002292224))), (4, 1, (.c (.int .u64 32907))), (5, 1, (.c (.int .u64 2147483649))), (6, 1, (.c (.int .u64 9223372039002292353))), (7, 1, (.c (.int .u64 9223372036854808585))), (8, 1, (.c (.int .u64 138))), (9, 1, (.c (.int .u64 136))), (10, 1, (.c (.int .u64 2147516425))), (11, 1, (.c (.int .u64 2147483658))), (12, 1, (.c (.int .u64 2147516555))), (13, 1, (.c (.int .u64 9223372036854775947))), (14, 1, (.c (.int .u64 9223372036854808713))), (15, 1, (.c (.int .u64 9223372036854808579))), (16, 1, (.c (.int .u64 9223372036854808578))), (17, 1, (.c (.int .u64 9223372036854775936))), (18, 1, (.c (.int .u64 32778))), (19, 1, (.c (.int .u64 9223372039002259466))), (20, 1, (.c (.int .u64 9223372039002292353))), (21, 1, (.c (.int .u64 9223372036854808704))), (22, 1, (.c (.int .u64 2147483649))), (23, 1, (.c (.int .u64 9223372039002292232)))], (some 1), none, true⟩,
     ⟨.store 24 (.t 0) (.t 1), none, none, false⟩])
  (.ret))
theorem st22 : stmOf Try.prog 22 p22 = some (s22, [.cell 0 (some 24)], 2) := by kernel_rfl

def p24 : Plan := ⟨⟨[], [], [], [], [], []⟩, []⟩
/-- cupel/sha.shifts (0 parameters, 0 captured) -/
def s24 : Stm :=
  .seq (.ops [⟨.alloc [(.int .i64 0), (.int .i64 0), (.int .i64 0), (.int .i64 0), (.int .i64 0), (.int .i64 0), (.int .i64 0), (.int .i64 0), (.int .i64 0), (.int .i64 0), (.int .i64 0), (.int .i64 0), (.int .i64 0), (.int .i64 0), (.int .i64 0), (.int .i64 0), (.int .i64 0), (.int .i64 0), (.int .i64 0), (.int .i64 0), (.int .i64 0), (.int .i64 0), (.int .i64 0), (.int .i64 0), (.int .i64 0), (.int .i64 0), (.int .i64 0), (.int .i64 0), (.int .i64 0), (.int .i64 0), (.int .i64 0), (.int .i64 0), (.int .i64 0), (.int .i64 0), (.int .i64 0), (.int .i64 0), (.int .i64 0), (.int .i64 0), (.int .i64 0), (.int .i64 0), (.int .i64 0), (.int .i64 0), (.int .i64 0), (.int .i64 0), (.int .i64 0), (.int .i64 0), (.int .i64 0), (.int .i64 0)], (some 0), none, false⟩])
  (.seq (.ops [⟨.build [(.int .i64 0), (.int .i64 0)] [(0, 1, (.c (.int .i64 1))), (1, 1, (.c (.int .i64 10)))], (some 1), none, true⟩,
     ⟨.build [(.int .i64 0), (.int .i64 0)] [(0, 1, (.c (.int .i64 3))), (1, 1, (.c (.int .i64 7)))], (some 2), none, true⟩,
     ⟨.build [(.int .i64 0), (.int .i64 0)] [(0, 1, (.c (.int .i64 6))), (1, 1, (.c (.int .i64 11)))], (some 3), none, true⟩,
     ⟨.build [(.int .i64 0), (.int .i64 0)] [(0, 1, (.c (.int .i64 10))), (1, 1, (.c (.int .i64 17)))], (some 4), none, true⟩,
     ⟨.build [(.int .i64 0), (.int .i64 0)] [(0, 1, (.c (.int .i64 15))), (1, 1, (.c (.int .i64 18)))], (some 5), none, true⟩,
     ⟨.build [(.int .i64 0), (.int .i64 0)] [(0, 1, (.c (.int .i64 21))), (1, 1, (.c (.int .i64 3)))], (some 6), none, true⟩,
     ⟨.build [(.int .i64 0), (.int .i64 0)] [(0, 1, (.c (.int .i64 28))), (1, 1, (.c (.int .i64 5)))], (some 7), none, true⟩,
     ⟨.build [(.int .i64 0), (.int .i64 0)] [(0, 1, (.c (.int .i64 36))), (1, 1, (.c (.int .i64 16)))], (some 8), none, true⟩,
     ⟨.build [(.int .i64 0), (.int .i64 0)] [(0, 1, (.c (.int .i64 45))), (1, 1, (.c (.int .i64 8)))], (some 9), none, true⟩,
     ⟨.build [(.int .i64 0), (.int .i64 0)] [(0, 1, (.c (.int .i64 55))), (1, 1, (.c (.int .i64 21)))], (some 10), none, true⟩,
     ⟨.build [(.int .i64 0), (.int .i64 0)] [(0, 1, (.c (.int .i64 2))), (1, 1, (.c (.int .i64 24)))], (some 11), none, true⟩,
     ⟨.build [(.int .i64 0), (.int .i64 0)] [(0, 1, (.c (.int .i64 14))), (1, 1, (.c (.int .i64 4)))], (some 12), none, true⟩,
     ⟨.build [(.int .i64 0), (.int .i64 0)] [(0, 1, (.c (.int .i64 27))), (1, 1, (.c (.int .i64 15)))], (some 13), none, true⟩,
     ⟨.build [(.int .i64 0), (.int .i64 0)] [(0, 1, (.c (.int .i64 41))), (1, 1, (.c (.int .i64 23)))], (some 14), none, true⟩,
     ⟨.build [(.int .i64 0), (.int .i64 0)] [(0, 1, (.c (.int .i64 56))), (1, 1, (.c (.int .i64 19)))], (some 15), none, true⟩,
     ⟨.build [(.int .i64 0), (.int .i64 0)] [(0, 1, (.c (.int .i64 8))), (1, 1, (.c (.int .i64 13)))], (some 16), none, true⟩,
     ⟨.build [(.int .i64 0), (.int .i64 0)] [(0, 1, (.c (.int .i64 25))), (1, 1, (.c (.int .i64 12)))], (some 17), none, true⟩,
     ⟨.build [(.int .i64 0), (.int .i64 0)] [(0, 1, (.c (.int .i64 43))), (1, 1, (.c (.int .i64 2)))], (some 18), none, true⟩,
     ⟨.build [(.int .i64 0), (.int .i64 0)] [(0, 1, (.c (.int .i64 62))), (1, 1, (.c (.int .i64 20)))], (some 19), none, true⟩,
     ⟨.build [(.int .i64 0), (.int .i64 0)] [(0, 1, (.c (.int .i64 18))), (1, 1, (.c (.int .i64 14)))], (some 20), none, true⟩,
     ⟨.build [(.int .i64 0), (.int .i64 0)] [(0, 1, (.c (.int .i64 39))), (1, 1, (.c (.int .i64 22)))], (some 21), none, true⟩,
     ⟨.build [(.int .i64 0), (.int .i64 0)] [(0, 1, (.c (.int .i64 61))), (1, 1, (.c (.int .i64 9)))], (some 22), none, true⟩,
     ⟨.build [(.int .i64 0), (.int .i64 0)] [(0, 1, (.c (.int .i64 20))), (1, 1, (.c (.int .i64 6)))], (some 23), none, true⟩,
     ⟨.build [(.int .i64 0), (.int .i64 0)] [(0, 1, (.c (.int .i64 44))), (1, 1, (.c (.int .i64 1)))], (some 24), none, true⟩,
     ⟨.build [(.int .i64 0), (.int .i64 0), (.int .i64 0), (.int .i64 0), (.int .i64 0), (.int .i64 0), (.int .i64 0), (.int .i64 0), (.int .i64 0), (.int .i64 0), (.int .i64 0), (.int .i64 0), (.int .i64 0), (.int .i64 0), (.int .i64 0), (.int .i64 0), (.int .i64 0), (.int .i64 0), (.int .i64 0), (.int .i64 0), (.int .i64 0), (.int .i64 0), (.int .i64 0), (.int .i64 0), (.int .i64 0), (.int .i64 0), (.int .i64 0), (.int .i64 0), (.int .i64 0), (.int .i64 0), (.int .i64 0), (.int .i64 0), (.int .i64 0), (.int .i64 0), (.int .i64 0), (.int .i64 0), (.int .i64 0), (.int .i64 0), (.int .i64 0), (.int .i64 0), (.int .i64 0), (.int .i64 0), (.int .i64 0), (.int .i64 0), (.int .i64 0), (.int .i64 0), (.int .i64 0), (.int .i64 0)] [(0, 2, (.t 1)), (2, 2, (.t 2)), (4, 2, (.t 3)), (6, 2, (.t 4)), (8, 2, (.t 5)), (10, 2, (.t 6)), (12, 2, (.t 7)), (14, 2, (.t 8)), (16, 2, (.t 9)), (18, 2, (.t 10)), (20, 2, (.t 11)), (22, 2, (.t 12)), (24, 2, (.t 13)), (26, 2, (.t 14)), (28, 2, (.t 15)), (30, 2, (.t 16)), (32, 2, (.t 17)), (34, 2, (.t 18)), (36, 2, (.t 19)), (38, 2, (.t 20)), (40, 2, (.t 21)), (42, 2, (.t 22)), (44, 2, (.t 23)), (46, 2, (.t 24))], (some 25), none, true⟩,
     ⟨.store 48 (.t 0) (.t 25), none, none, false⟩])
  (.ret))
theorem st24 : stmOf Try.prog 24 p24 = some (s24, [.cell 0 (some 48)], 26) := by kernel_rfl

def p23 : Plan := ⟨⟨[], [], [], [], [], []⟩, [(3, [0, 1, 2, 3, 4, 5]), (9, [0, 1, 2, 3, 4, 5, 6, 7, 8, 9, 10, 11, 12, 13, 14, 18, 15, 16, 17, 19, 20])]⟩
/-- cupel/sha.columns (1 parameters, 0 captured) -/
def s23 : Stm :=
  .seq (.ops [⟨.alloc [(.int .u64 0), (.int .u64 0), (.int .u64 0), (.int .u64 0), (.int .u64 0)], (some 2), none, false⟩])
  (.seq (.seq (.ops [⟨.mov (.t 0), (some 6), none, true⟩,
      ⟨.mov (.c (.int .i64 0)), (some 7), none, true⟩])
   (.block 0 (.loop (.seq (.ops [⟨.bin .lss (.t 7) (.c (.int .i64 25)), (some 8), none, true⟩])
     (.seq (.cond (.t 8)
       (.skip)
       (.exit 0))
     (.seq (.block 1 (.seq (.ops [⟨.mov (.t 7), (some 9), none, true⟩,
          ⟨.nilCheck (.t 6), (some 10), none, true⟩,
          ⟨.indexAddrA 25 1 (.t 10) (.t 7), (some 11), none, true⟩,
          ⟨.load none (.t 11), (some 12), none, false⟩,
          ⟨.mov (.t 9), (some 3), none, true⟩,
          ⟨.mov (.t 12), (some 4), none, true⟩])
       (.ops [⟨.mov (.t 3), (some 13), none, true⟩,
         ⟨.bin .rem (.t 13) (.c (.int .i64 5)), (some 14), none, true⟩,
         ⟨.indexAddrA 5 1 (.t 2) (.t 14), (some 15), none, true⟩,
         ⟨.load none (.t 15), (some 16), none, false⟩,
         ⟨.mov (.t 4), (some 17), none, true⟩,
         ⟨.bin .xor (.t 16) (.t 17), (some 18), none, true⟩,
         ⟨.indexAddrA 5 1 (.t 2) (.t 14), (some 19), none, true⟩,
         ⟨.store 1 (.t 19) (.t 18), none, none, false⟩])))
     (.ops [⟨.bin .add (.t 7) (.c (.int .i64 1)), (some 20), none, true⟩,
       ⟨.mov (.t 20), (some 7), none, true⟩])))))))
  (.seq (.ops [⟨.mov (.c (.int .i64 0)), (some 21), none, true⟩])
  (.block 2 (.loop (.seq (.ops [⟨.bin .lss (.t 21) (.c (.int .i64 25)), (some 22), none, true⟩])
    (.seq (.cond (.t 22)
      (.skip)
      (.exit 2))
    (.seq (.block 3 (.seq (.ops [⟨.mov (.t 21), (some 23), none, true⟩,
         ⟨.mov (.t 23), (some 5), none, true⟩])
      (.ops [⟨.mov (.t 0), (some 24), none, true⟩,
        ⟨.mov (.t 5), (some 25), none, true⟩,
        ⟨.nilCheck (.t 24), (some 26), none, true⟩,
        ⟨.indexAddrA 25 1 (.t 26) (.t 25), (some 27), none, true⟩,
        ⟨.load none (.t 27), (some 28), none, false⟩,
        ⟨.mov (.t 5), (some 29), none, true⟩,
        ⟨.bin .add (.t 29) (.c (.int .i64 4)), (some 30), none, true⟩,
        ⟨.bin .rem (.t 30) (.c (.int .i64 5)), (some 31), none, true⟩,
        ⟨.indexAddrA 5 1 (.t 2) (.t 31), (some 32), none, true⟩,
        ⟨.load none (.t 32), (some 33), none, false⟩,
        ⟨.mov (.t 5), (some 34), none, true⟩,
        ⟨.bin .add (.t 34) (.c (.int .i64 1)), (some 35), none, true⟩,
        ⟨.bin .rem (.t 35) (.c (.int .i64 5)), (some 36), none, true⟩,
        ⟨.indexAddrA 5 1 (.t 2) (.t 36), (some 37), none, true⟩,
        ⟨.load none (.t 37), (some 38), none, false⟩,
        ⟨.nilCheck (.t 24), (some 42), none, true⟩,
        ⟨.qcall (.f 25) [(.t 38), (.c (.int .i64 1))], (some 39), none, false⟩,
        ⟨.bin .xor (.t 33) (.t 39), (some 40), none, true⟩,
        ⟨.bin .xor (.t 28) (.t 40), (some 41), none, true⟩,
        ⟨.indexAddrA 25 1 (.t 42) (.t 25), (some 43), none, true⟩,
        ⟨.store 1 (.t 43) (.t 41), none, none, false⟩])))
    (.ops [⟨.bin .add (.t 21) (.c (.int .i64 1)), (some 44), none, true⟩,
      ⟨.mov (.t 44), (some 21), none, true⟩]))))))))
theorem st23 : stmOf Try.prog 23 p23 = some (s23, [], 45) := by kernel_rfl

def encW (l : List W64) : List D := l.map fun v => .int .u64 (ofW v)
theorem len_encW {l : List W64} : (encW l).length = l.length := by simp [encW]
theorem encW_get {l : List W64} {i : Nat} (h : i < l.length) : (encW l)[i]? = some (.int .u64 (ofW (l.getD i 0))) := by
  simp [encW, h]
theorem encW_set {l : List W64} {i : Nat} {v : W64} : (encW l).set i (.int .u64 (ofW v)) = encW (l.set i v) := by
  simp [encW, List.map_set]
theorem fold_succ {α : Type} (f : α → Nat → α) (x : α) (k : Nat) : (List.range (k + 1)).foldl f x = f ((List.range k).foldl f x) k := by
  rw [List.range_succ, List.foldl_append]; rfl
theorem tmod_nat (i m : Nat) : Int.tmod (i : Int) (m : Int) = ((i % m : Nat) : Int) := by
  rw [Int.tmod_eq_emod_of_nonneg (by omega)]; rfl
theorem tdiv_nat (i m : Nat) : Int.tdiv (i : Int) (m : Int) = ((i / m : Nat) : Int) := by
  rw [Int.tdiv_eq_ediv_of_nonneg (by omega)]; rfl

/-- The numbers that are put in, one a round. -/
def rcW : List W64 := [0x1, 0x8082, 0x800000000000808a, 0x8000000080008000, 0x808b, 0x80000001, 0x8000000080008081, 0x8000000000008009, 0x8a, 0x88, 0x80008009, 0x8000000a,
  0x8000808b, 0x800000000000008b, 0x8000000000008089, 0x8000000000008003, 0x8000000000008002, 0x8000000000000080, 0x800a, 0x800000008000000a, 0x8000000080008081, 0x8000000000008080, 0x80000001, 0x8000000080008008]
set_option maxHeartbeats 1000000 in
theorem rounds_c : PCall Try.prog 22 [] (.agg (encW rcW)) := by
  refine PCall.run (Tab.zero_ok _) st22 (by simp) fun E => ?_
  have e : encW rcW = [.int .u64 1, .int .u64 32898, .int .u64 9223372036854808714, .int .u64 9223372039002292224, .int .u64 32907, .int .u64 2147483649, .int .u64 9223372039002292353, .int .u64 9223372036854808585, .int .u64 138, .int .u64 136, .int .u64 2147516425, .int .u64 2147483658, .int .u64 2147516555, .int .u64 9223372036854775947, .int .u64 9223372036854808713, .int .u64 9223372036854808579, .int .u64 9223372036854808578, .int .u64 9223372036854775936, .int .u64 32778, .int .u64 9223372039002259466, .int .u64 9223372039002292353, .int .u64 9223372036854808704, .int .u64 2147483649, .int .u64 9223372039002292232] := by rfl
  rw [e]
  simp (config := {maxSteps := 1000000}) only [s22, Int.natCast_nonneg, Nat.le_refl, Int.le_refl, List.take_succ_cons, List.take_zero, decide_true, decide_false, Bool.and_false, Bool.false_and, zz, zzN, zzF, fltEv, isArithF, ↓reduceIte, Nat.reduceEqDiff, Nat.reduceBEq, Int.reduceLT, Int.reduceLE, Int.reduceToNat, Int.reduceEq, Int.reduceAdd, Int.reduceSub, Int.reduceMul, Int.reduceNeg, Nat.reduceMul, Nat.reduceSub, Nat.reduceLeDiff, Nat.reduceLT, Int.reduceGT, Int.reduceBEq, Int.reduceBNe, reduceCtorEq, Nat.reduceAdd, Ins.map, Fr.ev, argFr, argE, binEv, intEv, shEv, strEv, unEv, Fr.mark, evRes, tup, lenD, lookupD, loadD, partD, storeD, cellsD, cellOk, setAt, objNe, objSame, eqEv, readEv, buildD, buildRows, rowsOf, elemsOf]
def q22 : List D → Option D
  | [] => if True then some (.agg (encW rcW)) else none
  | _ => none
theorem q22_ok (args : List D) (d : D) (h : q22 args = some d) : PCall Try.prog 22 args d := by
  unfold q22 at h
  split at h
  · split at h
    · cases h; exact rounds_c
    · cases h
  · cases h

def tb22 : Tab := Tab.zero.addQ 22 q22
theorem tb22_q (g : FuncId) (args : List D) : tb22.q g args = if g = 22 then q22 args else Tab.zero.q g args := rfl
theorem tb22_a : tb22.a = Tab.zero.a := rfl
theorem tb22_c : tb22.c = Tab.zero.c := rfl
theorem tb22_ok : tb22.ok Try.prog := Tab.addQ_ok (Tab.zero_ok _) q22_ok
theorem tb22_e : type_of% (And.intro @tb22_q (And.intro @tb22_a @tb22_c)) := (And.intro @tb22_q (And.intro @tb22_a @tb22_c))

/-- By how much each number is turned, and where it goes. -/
def shW : List (Nat × Nat) := [(1, 10), (3, 7), (6, 11), (10, 17), (15, 18), (21, 3), (28, 5), (36, 16), (45, 8), (55, 21), (2, 24), (14, 4), (27, 15), (41, 23), (56, 19), (8, 13), (25, 12), (43, 2), (62, 20), (18, 14), (39, 22), (61, 9), (20, 6), (44, 1)]
def encP (l : List (Nat × Nat)) : List D := l.flatMap fun p => [.int .i64 p.1, .int .i64 p.2]
set_option maxHeartbeats 2000000 in
theorem shifts_c : PCall Try.prog 24 [] (.agg (encP shW)) := by
  refine PCall.run tb22_ok st24 (by simp) fun E => ?_
  simp (config := {maxSteps := 1000000}) only [s24, encP, shW, List.flatMap_cons, List.flatMap_nil, tb22_e, Int.natCast_nonneg, Nat.le_refl, Int.le_refl, List.take_succ_cons, List.take_zero, decide_true, decide_false, Bool.and_false, Bool.false_and, zz, zzN, zzF, fltEv, isArithF, ↓reduceIte, Nat.reduceEqDiff, Nat.reduceBEq, Int.reduceLT, Int.reduceLE, Int.reduceToNat, Int.reduceEq, Int.reduceAdd, Int.reduceSub, Int.reduceMul, Int.reduceNeg, Nat.reduceMul, Nat.reduceSub, Nat.reduceLeDiff, Nat.reduceLT, Int.reduceGT, Int.reduceBEq, Int.reduceBNe, reduceCtorEq, Nat.reduceAdd, Ins.map, Fr.ev, argFr, argE, binEv, intEv, shEv, strEv, unEv, Fr.mark, evRes, tup, lenD, lookupD, loadD, partD, storeD, cellsD, cellOk, setAt, objNe, objSame, eqEv, readEv, buildD, buildRows, rowsOf, elemsOf]
def q24 : List D → Option D
  | [] => if True then some (.agg (encP shW)) else none
  | _ => none
theorem q24_ok (args : List D) (d : D) (h : q24 args = some d) : PCall Try.prog 24 args d := by
  unfold q24 at h
  split at h
  · split at h
    · cases h; exact shifts_c
    · cases h
  · cases h

def tb24 : Tab := tb22.addQ 24 q24
theorem tb24_q (g : FuncId) (args : List D) : tb24.q g args = if g = 24 then q24 args else tb22.q g args := rfl
theorem tb24_a : tb24.a = tb22.a := rfl
theorem tb24_c : tb24.c = tb22.c := rfl
theorem tb24_ok : tb24.ok Try.prog := Tab.addQ_ok tb22_ok q24_ok
theorem tb24_e : type_of% (And.intro (And.intro @tb24_q (And.intro @tb24_a @tb24_c)) @tb22_e) := (And.intro (And.intro @tb24_q (And.intro @tb24_a @tb24_c)) @tb22_e)

theorem q25_rot (a : W64) (n : Nat) (hn : n < 64) : PCall Try.prog 25 [.int .u64 (ofW a), .int .i64 n] (.int .u64 (ofW (rotL a n))) := rotate_c a n hn
def q25 : List D → Option D
  | [.int .u64 x, .int .i64 n] => if 0 ≤ n ∧ n < 64 ∧ x = ofW (BitVec.ofInt 64 x) then some (.int .u64 (ofW (rotL (BitVec.ofInt 64 x) n.toNat))) else none
  | _ => none
theorem q25_ok (args : List D) (d : D) (h : q25 args = some d) : PCall Try.prog 25 args d := by
  unfold q25 at h
  split at h
  · rename_i x n
    split at h
    · rename_i hc
      cases h
      obtain ⟨m, rfl⟩ := Int.eq_ofNat_of_zero_le hc.1
      have := rotate_c (BitVec.ofInt 64 x) m (by omega)
      rw [← hc.2.2] at this
      exact this
    · cases h
  · cases h
theorem ofInt_ofW' (a : W64) : BitVec.ofInt 64 (ofW a) = a := ofInt_ofW a
theorem q25_eq {a : W64} {n : Nat} : q25 [.int .u64 (ofW a), .int .i64 n] = if n < 64 then some (.int .u64 (ofW (rotL a n))) else none := by
  simp only [q25, ofInt_ofW', Int.toNat_natCast]
  by_cases h : n < 64
  · rw [if_pos h, if_pos (by simp; omega)]
  · rw [if_neg h, if_neg (by omega)]
def tb25 : Tab := tb24.addQ 25 q25
theorem tb25_q (g : FuncId) (args : List D) : tb25.q g args = if g = 25 then q25 args else tb24.q g args := rfl
theorem tb25_a : tb25.a = tb24.a := rfl
theorem tb25_c : tb25.c = tb24.c := rfl
theorem tb25_ok : tb25.ok Try.prog := Tab.addQ_ok tb24_ok q25_ok
theorem tb25_e : type_of% (And.intro (And.intro @tb25_q (And.intro @tb25_a @tb25_c)) @tb24_e) := (And.intro (And.intro @tb25_q (And.intro @tb25_a @tb25_c)) @tb24_e)

/-- The columns, mixed. -/
def colC (a : List W64) (k : Nat) : List W64 := (List.range k).foldl (fun c i => c.set (i % 5) (c.getD (i % 5) 0 ^^^ a.getD i 0)) (List.replicate 5 0)
def colA (a c : List W64) (k : Nat) : List W64 := (List.range k).foldl (fun b i => b.set i (b.getD i 0 ^^^ (c.getD ((i + 4) % 5) 0 ^^^ rotL (c.getD ((i + 1) % 5) 0) 1))) a
def colF (a : List W64) : List W64 := colA a (colC a 25) 25
theorem len_colC (a : List W64) : ∀ k, (colC a k).length = 5
  | 0 => rfl
  | k + 1 => by unfold colC; rw [fold_succ, List.length_set]; exact len_colC a k
theorem len_colA (a c : List W64) : ∀ k, (colA a c k).length = a.length
  | 0 => rfl
  | k + 1 => by unfold colA; rw [fold_succ, List.length_set]; exact len_colA a c k
set_option maxHeartbeats 1000000 in
theorem columns_c (h : AHeap) (id : Nat) (a : List W64) (hid : h.f id = some (.cells (encW a))) (ha : a.length = 25) :
    ACalls Try.prog 23 [.ptr id 1 0] h fun o h' => ∃ d, o = .ret d ∧ d = .tuple [] ∧ h' = h.set id (.cells (encW (colF a))) := by
  refine ACalls.runF tb25_ok st23 (by simp) ?_
  simp (config := {maxSteps := 1000000}) only [s23, tb25_e, Int.natCast_nonneg, Nat.le_refl, Int.le_refl, List.take_succ_cons, List.take_zero, decide_true, decide_false, Bool.and_false, Bool.false_and, zz, zzN, zzF, fltEv, isArithF, ↓reduceIte, Nat.reduceEqDiff, Nat.reduceBEq, Int.reduceLT, Int.reduceLE, Int.reduceToNat, Int.reduceEq, Int.reduceAdd, Int.reduceSub, Int.reduceMul, Int.reduceNeg, Nat.reduceMul, Nat.reduceSub, Nat.reduceLeDiff, Nat.reduceLT, Int.reduceGT, Int.reduceBEq, Int.reduceBNe, reduceCtorEq, Nat.reduceAdd, Ins.map, Fr.ev, argFr, argE, binEv, intEv, shEv, strEv, unEv, Fr.mark, evRes, tup, lenD, lookupD, loadD, partD, storeD, cellsD, cellOk, setAt, objNe, objSame, eqEv, readEv, buildD, buildRows, rowsOf, elemsOf]
  intro j hj
  have n1 : ¬ j = id := fun e => by subst e; rw [hid] at hj; cases hj
  have n2 : ¬ id = j := fun e => n1 e.symm
  refine run_loop (X := Nat) (fun i => [(0, .ptr id 1 0), (2, .ptr j 1 0), (6, .ptr id 1 0), (7, .int .i64 i)]) (fun i => h.set j (.cells (encW (colC a i)))) (fun i => 25 - i) (fun i => i ≤ 25) 0 (by simp) ?_ (AHeap.sub_refl _) ?_
  · simp only [Int.natCast_nonneg, Nat.le_refl, Int.le_refl, List.take_succ_cons, List.take_zero, decide_true, decide_false, Bool.and_false, Bool.false_and, zz, zzN, zzF, fltEv, isArithF, ↓reduceIte, Nat.reduceEqDiff, Nat.reduceBEq, Int.reduceLT, Int.reduceLE, Int.reduceToNat, Int.reduceEq, Int.reduceAdd, Int.reduceSub, Int.reduceMul, Int.reduceNeg, Nat.reduceMul, Nat.reduceSub, Nat.reduceLeDiff, Nat.reduceLT, Int.reduceGT, Int.reduceBEq, Int.reduceBNe, reduceCtorEq, Nat.reduceAdd, Ins.map, Fr.ev, argFr, argE, binEv, intEv, shEv, strEv, unEv, Fr.mark, evRes, tup, lenD, lookupD, loadD, partD, storeD, cellsD, cellOk, setAt, objNe, objSame, eqEv, readEv, buildD, buildRows, rowsOf, elemsOf]
  intro i Q hi hQ
  by_cases c1 : i < 25
  · have g1 : ((i : Int) < 25) = True := by simp; omega
    have wi : IntKind.i64.wrap ((i : Int) + 1) = ((i + 1 : Nat) : Int) := wrap_succ (by omega)
    have m5 : Int.tmod (i : Int) 5 = ((i % 5 : Nat) : Int) := tmod_nat i 5
    have l5 : (((i % 5 : Nat) : Int) < 5) = True := by simp; omega
    have ga := encW_get (l := a) (i := i) (by omega)
    have gc := encW_get (l := colC a i) (i := i % 5) (by rw [len_colC]; omega)
    have p1 : (0 + i * 1) = i := by omega
    have p2 : (0 + i % 5 * 1) = i % 5 := by omega
    simp (config := {maxSteps := 1000000}) only [hid, n1, n2, g1, wi, m5, l5, ga, gc, p1, p2, Nat.mul_one, w_xor, encW_set, len_encW, len_colC, tb25_e, Int.natCast_nonneg, Nat.le_refl, Int.le_refl, List.take_succ_cons, List.take_zero, decide_true, decide_false, Bool.and_false, Bool.false_and, zz, zzN, zzF, fltEv, isArithF, ↓reduceIte, Nat.reduceEqDiff, Nat.reduceBEq, Int.reduceLT, Int.reduceLE, Int.reduceToNat, Int.reduceEq, Int.reduceAdd, Int.reduceSub, Int.reduceMul, Int.reduceNeg, Nat.reduceMul, Nat.reduceSub, Nat.reduceLeDiff, Nat.reduceLT, Int.reduceGT, Int.reduceBEq, Int.reduceBNe, reduceCtorEq, Nat.reduceAdd, Ins.map, Fr.ev, argFr, argE, binEv, intEv, shEv, strEv, unEv, Fr.mark, evRes, tup, lenD, lookupD, loadD, partD, storeD, cellsD, cellOk, setAt, objNe, objSame, eqEv, readEv, buildD, buildRows, rowsOf, elemsOf]
    have f := fold_succ (fun (c : List W64) i => c.set (i % 5) (c.getD (i % 5) 0 ^^^ a.getD i 0)) (List.replicate 5 0) i
    have f' : (colC a i).set (i % 5) ((colC a i).getD (i % 5) 0 ^^^ a.getD i 0) = colC a (i + 1) := by simp only [colC]; exact f.symm
    rw [f']
    exact ⟨by omega, hQ (i + 1) _ _ (by omega) (by simp only [Int.natCast_nonneg, Nat.le_refl, Int.le_refl, List.take_succ_cons, List.take_zero, decide_true, decide_false, Bool.and_false, Bool.false_and, zz, zzN, zzF, fltEv, isArithF, ↓reduceIte, Nat.reduceEqDiff, Nat.reduceBEq, Int.reduceLT, Int.reduceLE, Int.reduceToNat, Int.reduceEq, Int.reduceAdd, Int.reduceSub, Int.reduceMul, Int.reduceNeg, Nat.reduceMul, Nat.reduceSub, Nat.reduceLeDiff, Nat.reduceLT, Int.reduceGT, Int.reduceBEq, Int.reduceBNe, reduceCtorEq, Nat.reduceAdd, Ins.map, Fr.ev, argFr, argE, binEv, intEv, shEv, strEv, unEv, Fr.mark, evRes, tup, lenD, lookupD, loadD, partD, storeD, cellsD, cellOk, setAt, objNe, objSame, eqEv, readEv, buildD, buildRows, rowsOf, elemsOf]) (AHeap.sub_refl _) (by omega)⟩
  · have g1 : ((i : Int) < 25) = False := by simp; omega
    simp (config := {maxSteps := 1000000}) only [hid, n1, n2, g1, tb25_e, Int.natCast_nonneg, Nat.le_refl, Int.le_refl, List.take_succ_cons, List.take_zero, decide_true, decide_false, Bool.and_false, Bool.false_and, zz, zzN, zzF, fltEv, isArithF, ↓reduceIte, Nat.reduceEqDiff, Nat.reduceBEq, Int.reduceLT, Int.reduceLE, Int.reduceToNat, Int.reduceEq, Int.reduceAdd, Int.reduceSub, Int.reduceMul, Int.reduceNeg, Nat.reduceMul, Nat.reduceSub, Nat.reduceLeDiff, Nat.reduceLT, Int.reduceGT, Int.reduceBEq, Int.reduceBNe, reduceCtorEq, Nat.reduceAdd, Ins.map, Fr.ev, argFr, argE, binEv, intEv, shEv, strEv, unEv, Fr.mark, evRes, tup, lenD, lookupD, loadD, partD, storeD, cellsD, cellOk, setAt, objNe, objSame, eqEv, readEv, buildD, buildRows, rowsOf, elemsOf]
    have hc : i = 25 := by omega
    subst hc
    refine run_loop (X := Nat) (fun i => [(0, .ptr id 1 0), (2, .ptr j 1 0), (21, .int .i64 i)]) (fun i => (h.set j (.cells (encW (colC a 25)))).set id (.cells (encW (colA a (colC a 25) i)))) (fun i => 25 - i) (fun i => i ≤ 25) 0 (by simp) ?_ ?_ ?_
    · simp only [Int.natCast_nonneg, Nat.le_refl, Int.le_refl, List.take_succ_cons, List.take_zero, decide_true, decide_false, Bool.and_false, Bool.false_and, zz, zzN, zzF, fltEv, isArithF, ↓reduceIte, Nat.reduceEqDiff, Nat.reduceBEq, Int.reduceLT, Int.reduceLE, Int.reduceToNat, Int.reduceEq, Int.reduceAdd, Int.reduceSub, Int.reduceMul, Int.reduceNeg, Nat.reduceMul, Nat.reduceSub, Nat.reduceLeDiff, Nat.reduceLT, Int.reduceGT, Int.reduceBEq, Int.reduceBNe, reduceCtorEq, Nat.reduceAdd, Ins.map, Fr.ev, argFr, argE, binEv, intEv, shEv, strEv, unEv, Fr.mark, evRes, tup, lenD, lookupD, loadD, partD, storeD, cellsD, cellOk, setAt, objNe, objSame, eqEv, readEv, buildD, buildRows, rowsOf, elemsOf]
    · have e : colA a (colC a 25) 0 = a := rfl
      rw [e]
      exact AHeap.sub_X (by repeat' first | with_reducible exact AHeap.subX_refl | with_reducible exact AHeap.subX_emp | refine AHeap.subX_l (by simp [n1, n2, hid]) ?_ | refine AHeap.subX_r (by simp [n1, n2, hid]) ?_)
    intro i Q hi hQ
    by_cases c1 : i < 25
    · have g1 : ((i : Int) < 25) = True := by simp; omega
      have wi : IntKind.i64.wrap ((i : Int) + 1) = ((i + 1 : Nat) : Int) := wrap_succ (by omega)
      have w4 : IntKind.i64.wrap ((i : Int) + 4) = ((i + 4 : Nat) : Int) := by rw [wrap_i64 (by omega) (by omega)]; omega
      have m4 : Int.tmod ((i + 4 : Nat) : Int) 5 = (((i + 4) % 5 : Nat) : Int) := tmod_nat (i + 4) 5
      have m1 : Int.tmod ((i + 1 : Nat) : Int) 5 = (((i + 1) % 5 : Nat) : Int) := tmod_nat (i + 1) 5
      have l4 : ((((i + 4) % 5 : Nat) : Int) < 5) = True := by simp; omega
      have l1 : ((((i + 1) % 5 : Nat) : Int) < 5) = True := by simp; omega
      have ga := encW_get (l := colA a (colC a 25) i) (i := i) (by rw [len_colA]; omega)
      have gc4 := encW_get (l := colC a 25) (i := (i + 4) % 5) (by rw [len_colC]; omega)
      have gc1 := encW_get (l := colC a 25) (i := (i + 1) % 5) (by rw [len_colC]; omega)
      have p1 : (0 + i * 1) = i := by omega
      have p4 : (0 + (i + 4) % 5 * 1) = (i + 4) % 5 := by omega
      have p5 : (0 + (i + 1) % 5 * 1) = (i + 1) % 5 := by omega
      have q1 : q25 [.int .u64 (ofW ((colC a 25).getD ((i + 1) % 5) 0)), .int .i64 1] = some (.int .u64 (ofW (rotL ((colC a 25).getD ((i + 1) % 5) 0) 1))) := by
        have := @q25_eq ((colC a 25).getD ((i + 1) % 5) 0) 1
        rwa [if_pos (by omega)] at this
      simp (config := {maxSteps := 1000000}) only [n1, n2, g1, wi, w4, m4, m1, l4, l1, ga, gc4, gc1, p1, p4, p5, Nat.mul_one, w_xor, encW_set, len_encW, len_colC, len_colA, ha, q1, tb25_e, Int.natCast_nonneg, Nat.le_refl, Int.le_refl, List.take_succ_cons, List.take_zero, decide_true, decide_false, Bool.and_false, Bool.false_and, zz, zzN, zzF, fltEv, isArithF, ↓reduceIte, Nat.reduceEqDiff, Nat.reduceBEq, Int.reduceLT, Int.reduceLE, Int.reduceToNat, Int.reduceEq, Int.reduceAdd, Int.reduceSub, Int.reduceMul, Int.reduceNeg, Nat.reduceMul, Nat.reduceSub, Nat.reduceLeDiff, Nat.reduceLT, Int.reduceGT, Int.reduceBEq, Int.reduceBNe, reduceCtorEq, Nat.reduceAdd, Ins.map, Fr.ev, argFr, argE, binEv, intEv, shEv, strEv, unEv, Fr.mark, evRes, tup, lenD, lookupD, loadD, partD, storeD, cellsD, cellOk, setAt, objNe, objSame, eqEv, readEv, buildD, buildRows, rowsOf, elemsOf]
      have f' : (colA a (colC a 25) i).set i ((colA a (colC a 25) i).getD i 0 ^^^ ((colC a 25).getD ((i + 4) % 5) 0 ^^^ rotL ((colC a 25).getD ((i + 1) % 5) 0) 1)) = colA a (colC a 25) (i + 1) := by
        simp only [colA]
        exact (fold_succ (fun (b : List W64) i => b.set i (b.getD i 0 ^^^ ((colC a 25).getD ((i + 4) % 5) 0 ^^^ rotL ((colC a 25).getD ((i + 1) % 5) 0) 1))) a i).symm
      rw [f']
      exact ⟨by omega, hQ (i + 1) _ _ (by omega) (by simp only [Int.natCast_nonneg, Nat.le_refl, Int.le_refl, List.take_succ_cons, List.take_zero, decide_true, decide_false, Bool.and_false, Bool.false_and, zz, zzN, zzF, fltEv, isArithF, ↓reduceIte, Nat.reduceEqDiff, Nat.reduceBEq, Int.reduceLT, Int.reduceLE, Int.reduceToNat, Int.reduceEq, Int.reduceAdd, Int.reduceSub, Int.reduceMul, Int.reduceNeg, Nat.reduceMul, Nat.reduceSub, Nat.reduceLeDiff, Nat.reduceLT, Int.reduceGT, Int.reduceBEq, Int.reduceBNe, reduceCtorEq, Nat.reduceAdd, Ins.map, Fr.ev, argFr, argE, binEv, intEv, shEv, strEv, unEv, Fr.mark, evRes, tup, lenD, lookupD, loadD, partD, storeD, cellsD, cellOk, setAt, objNe, objSame, eqEv, readEv, buildD, buildRows, rowsOf, elemsOf]) (AHeap.sub_refl _) (by omega)⟩
    · have g1 : ((i : Int) < 25) = False := by simp; omega
      have hc : i = 25 := by omega
      subst hc
      simp (config := {maxSteps := 1000000}) only [n1, n2, g1, tb25_e, Int.natCast_nonneg, Nat.le_refl, Int.le_refl, List.take_succ_cons, List.take_zero, decide_true, decide_false, Bool.and_false, Bool.false_and, zz, zzN, zzF, fltEv, isArithF, ↓reduceIte, Nat.reduceEqDiff, Nat.reduceBEq, Int.reduceLT, Int.reduceLE, Int.reduceToNat, Int.reduceEq, Int.reduceAdd, Int.reduceSub, Int.reduceMul, Int.reduceNeg, Nat.reduceMul, Nat.reduceSub, Nat.reduceLeDiff, Nat.reduceLT, Int.reduceGT, Int.reduceBEq, Int.reduceBNe, reduceCtorEq, Nat.reduceAdd, Ins.map, Fr.ev, argFr, argE, binEv, intEv, shEv, strEv, unEv, Fr.mark, evRes, tup, lenD, lookupD, loadD, partD, storeD, cellsD, cellOk, setAt, objNe, objSame, eqEv, readEv, buildD, buildRows, rowsOf, elemsOf]
      refine ⟨_, ?_, rfl⟩
      exact AHeap.sub_X (by repeat' first | with_reducible exact AHeap.subX_refl | with_reducible exact AHeap.subX_emp | refine AHeap.subX_l (by simp [n1, n2, hj, colF]) ?_ | refine AHeap.subX_r (by simp [n1, n2, hj, colF]) ?_)
end Go.Proofs.Ytiilnakenlegmaa.Zz
