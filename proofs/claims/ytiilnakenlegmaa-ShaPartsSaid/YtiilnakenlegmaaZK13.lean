/- Contracts: the statements of digests and clashes. -/
import Derived.Test.YtiilnakenlegmaaZK12
namespace Go.Proofs.Ytiilnakenlegmaa.Zz
set_option linter.unusedVariables false
set_option linter.unusedSimpArgs false
set_option maxRecDepth 20000
def p4 : Plan := ⟨⟨[], [], [], [], [], []⟩, []⟩
/-- cupel/cupellaw01.ShaDigests (1 parameters, 0 captured) -/
def s4 : Stm :=
  .seq (.ops [⟨.mov (.c (.bool false)), (some 2), none, true⟩])
  (.seq (.ops [⟨.qcall (.f 8) [], (some 3), none, false⟩,
     ⟨.mov (.t 3), (some 4), none, true⟩,
     ⟨.mov (.t 0), (some 5), (some (4, true)), true⟩,
     ⟨.qcall (.f 12) [(.t 5)], (some 6), (some (4, true)), false⟩,
     ⟨.qcall (.f 11) [(.t 6)], (some 7), (some (4, true)), false⟩,
     ⟨.mov (.t 0), (some 8), (some (4, true)), true⟩,
     ⟨.qcall (.f 12) [(.t 8)], (some 9), (some (4, true)), false⟩,
     ⟨.qcall (.f 13) [(.t 9)], (some 10), (some (4, true)), false⟩,
     ⟨.bin .eql (.t 7) (.t 10), (some 11), (some (4, true)), true⟩,
     ⟨.pick (.t 4) (.t 11) (.c (.bool false)), (some 12), none, true⟩,
     ⟨.mov (.t 12), (some 2), none, true⟩])
  (.ret))
theorem st4 : stmOf Try.prog 4 p4 = some (s4, [.tmp 2], 13) := by kernel_rfl

def p6 : Plan := ⟨⟨[], [], [], [], [], []⟩, []⟩
/-- cupel/cupellaw01.ShaClashes (2 parameters, 0 captured) -/
def s6 : Stm :=
  .seq (.ops [⟨.mov (.c (.bool false)), (some 4), none, true⟩])
  (.seq (.ops [⟨.mov (.t 0), (some 7), none, true⟩,
     ⟨.qcall (.f 12) [(.t 7)], (some 8), none, false⟩,
     ⟨.mov (.t 1), (some 9), none, true⟩,
     ⟨.qcall (.f 12) [(.t 9)], (some 10), none, false⟩,
     ⟨.mov (.t 8), (some 5), none, true⟩,
     ⟨.mov (.t 10), (some 6), none, true⟩])
  (.seq (.ops [⟨.qcall (.f 8) [], (some 11), none, false⟩,
     ⟨.mov (.t 11), (some 12), none, true⟩,
     ⟨.mov (.t 5), (some 13), (some (12, true)), true⟩,
     ⟨.mov (.t 6), (some 14), (some (12, true)), true⟩,
     ⟨.qcall (.f 17) [(.t 13), (.t 14)], (some 15), (some (12, true)), false⟩,
     ⟨.mov (.t 5), (some 16), (some (12, true)), true⟩,
     ⟨.mov (.t 6), (some 17), (some (12, true)), true⟩,
     ⟨.bin .eql (.t 16) (.t 17), (some 18), (some (12, true)), true⟩,
     ⟨.eql .bool false (.t 15) (.t 18), (some 19), (some (12, true)), true⟩,
     ⟨.pick (.t 12) (.t 19) (.c (.bool false)), (some 20), none, true⟩,
     ⟨.mov (.t 20), (some 21), none, true⟩,
     ⟨.mov (.t 5), (some 22), (some (21, true)), true⟩,
     ⟨.mov (.t 6), (some 23), (some (21, true)), true⟩,
     ⟨.build [(.str []), (.str [])] [(0, 1, (.t 22)), (1, 1, (.t 23))], (some 24), (some (21, true)), true⟩,
     ⟨.qcall (.f 18) [(.t 24)], (some 25), (some (21, true)), false⟩,
     ⟨.mov (.t 5), (some 26), (some (21, true)), true⟩,
     ⟨.mov (.t 6), (some 27), (some (21, true)), true⟩,
     ⟨.bin .neq (.t 26) (.t 27), (some 28), (some (21, true)), true⟩,
     ⟨.mov (.t 28), (some 29), (some (21, true)), true⟩,
     ⟨.mov (.t 5), (some 30), (some (29, true)), true⟩,
     ⟨.qcall (.f 13) [(.t 30)], (some 31), (some (29, true)), false⟩,
     ⟨.mov (.t 6), (some 32), (some (29, true)), true⟩,
     ⟨.qcall (.f 13) [(.t 32)], (some 33), (some (29, true)), false⟩,
     ⟨.bin .eql (.t 31) (.t 33), (some 34), (some (29, true)), true⟩,
     ⟨.pick (.t 29) (.t 34) (.c (.bool false)), (some 35), (some (21, true)), true⟩,
     ⟨.eql .bool false (.t 25) (.t 35), (some 36), (some (21, true)), true⟩,
     ⟨.pick (.t 21) (.t 36) (.c (.bool false)), (some 37), none, true⟩,
     ⟨.mov (.t 37), (some 4), none, true⟩])
  (.ret)))
theorem st6 : stmOf Try.prog 6 p6 = some (s6, [.tmp 4], 38) := by kernel_rfl

def p3 : Plan := ⟨⟨[], [], [], [], [], []⟩, [(1, [0, 1, 2, 4, 3, 5, 6, 7, 8])]⟩
/-- cupel/cupellaw01.ShaTurns (1 parameters, 0 captured) -/
def s3 : Stm :=
  .seq (.ops [⟨.box (.t 0), (some 1), none, false⟩,
     ⟨.mov (.c (.bool false)), (some 2), none, true⟩])
  (.seq (.ops [⟨.qcall (.f 8) [], (some 3), none, false⟩,
     ⟨.mov (.t 3), (some 4), none, true⟩,
     ⟨.load (some 25) (.t 1), (some 5), (some (4, true)), false⟩,
     ⟨.load (some 25) (.t 1), (some 7), (some (4, true)), false⟩,
     ⟨.qcall (.f 9) [(.t 5)], (some 6), (some (4, true)), false⟩,
     ⟨.qcall (.f 10) [(.t 7)], (some 8), (some (4, true)), false⟩,
     ⟨.eql (.array 25 .prim) false (.t 6) (.t 8), (some 9), (some (4, true)), true⟩,
     ⟨.pick (.t 4) (.t 9) (.c (.bool false)), (some 10), none, true⟩,
     ⟨.mov (.t 10), (some 2), none, true⟩])
  (.ret))
theorem st3 : stmOf Try.prog 3 p3 = some (s3, [.tmp 2], 11) := by kernel_rfl

def q18 : List D → Option D
  | [.agg [.str a, .str b]] => if True then some (.bool (!(a == b) && (shaB a == shaB b))) else none
  | _ => none
theorem q18_ok (args : List D) (d : D) (h : q18 args = some d) : PCall Try.prog 18 args d := by
  unfold q18 at h
  split at h
  · split at h
    · cases h; exact collide_c _ _
    · cases h
  · cases h

def tb13 : Tab := tb17.addQ 13 q13
theorem tb13_q (g : FuncId) (args : List D) : tb13.q g args = if g = 13 then q13 args else tb17.q g args := rfl
theorem tb13_a : tb13.a = tb17.a := rfl
theorem tb13_c : tb13.c = tb17.c := rfl
theorem tb13_ok : tb13.ok Try.prog := Tab.addQ_ok tb17_ok q13_ok
theorem tb13_e : type_of% (And.intro (And.intro @tb13_q (And.intro @tb13_a @tb13_c)) @tb17_e) := (And.intro (And.intro @tb13_q (And.intro @tb13_a @tb13_c)) @tb17_e)

def tb18 : Tab := tb13.addQ 18 q18
theorem tb18_q (g : FuncId) (args : List D) : tb18.q g args = if g = 18 then q18 args else tb13.q g args := rfl
theorem tb18_a : tb18.a = tb13.a := rfl
theorem tb18_c : tb18.c = tb13.c := rfl
theorem tb18_ok : tb18.ok Try.prog := Tab.addQ_ok tb13_ok q18_ok
theorem tb18_e : type_of% (And.intro (And.intro @tb18_q (And.intro @tb18_a @tb18_c)) @tb13_e) := (And.intro (And.intro @tb18_q (And.intro @tb18_a @tb18_c)) @tb13_e)

def tb100 : Tab := tb18.addQ 10 q10
theorem tb100_q (g : FuncId) (args : List D) : tb100.q g args = if g = 10 then q10 args else tb18.q g args := rfl
theorem tb100_a : tb100.a = tb18.a := rfl
theorem tb100_c : tb100.c = tb18.c := rfl
theorem tb100_ok : tb100.ok Try.prog := Tab.addQ_ok tb18_ok q10_ok
theorem tb100_e : type_of% (And.intro (And.intro @tb100_q (And.intro @tb100_a @tb100_c)) @tb18_e) := (And.intro (And.intro @tb100_q (And.intro @tb100_a @tb100_c)) @tb18_e)

theorem q18_eq (a b : List UInt8) : q18 [.agg [.str a, .str b]] = some (.bool (!(a == b) && (shaB a == shaB b))) := rfl
theorem shaDigests_c (s : List UInt8) : PCall Try.prog 4 [.str s] (.bool true) := by
  refine PCall.run tb100_ok st4 (by simp) fun E => ?_
  have l : (s.take 1200).length ≤ 9000000000000000000 := by rw [List.length_take]; omega
  have q1 := q12_eq s
  have q2 := q13_eq l
  simp (config := {maxSteps := 1000000}) only [s4, q1, q2, q11_eq, q8_eq, tb100_e, Int.natCast_nonneg, Nat.le_refl, Int.le_refl, List.take_succ_cons, List.take_zero, decide_true, decide_false, Bool.and_false, Bool.false_and, zz, zzN, zzF, fltEv, isArithF, ↓reduceIte, Nat.reduceEqDiff, Nat.reduceBEq, Int.reduceLT, Int.reduceLE, Int.reduceToNat, Int.reduceEq, Int.reduceAdd, Int.reduceSub, Int.reduceMul, Int.reduceNeg, Nat.reduceMul, Nat.reduceSub, Nat.reduceLeDiff, Nat.reduceLT, Int.reduceGT, Int.reduceBEq, Int.reduceBNe, reduceCtorEq, Nat.reduceAdd, Ins.map, Fr.ev, argFr, argE, binEv, intEv, shEv, strEv, unEv, Fr.mark, evRes, tup, lenD, lookupD, loadD, partD, storeD, cellsD, cellOk, setAt, objNe, objSame, eqEv, readEv, buildD, buildRows, rowsOf, elemsOf]
theorem shaClashes_c (a b : List UInt8) : PCall Try.prog 6 [.str a, .str b] (.bool true) := by
  refine PCall.run tb100_ok st6 (by simp) fun E => ?_
  have l1 : (a.take 1200).length ≤ 9000000000000000000 := by rw [List.length_take]; omega
  have l2 : (b.take 1200).length ≤ 9000000000000000000 := by rw [List.length_take]; omega
  have q1 := q12_eq a
  have q2 := q12_eq b
  have q3 := q13_eq l1
  have q4 := q13_eq l2
  generalize a.take 1200 = x at *
  generalize b.take 1200 = y at *
  cases c : (x == y)
  · simp (config := {maxSteps := 1000000}) only [s6, c, q1, q2, q3, q4, q17_eq, q18_eq, q11_eq, q8_eq, tb100_e, Int.natCast_nonneg, Nat.le_refl, Int.le_refl, List.take_succ_cons, List.take_zero, decide_true, decide_false, Bool.and_false, Bool.false_and, zz, zzN, zzF, fltEv, isArithF, ↓reduceIte, Nat.reduceEqDiff, Nat.reduceBEq, Int.reduceLT, Int.reduceLE, Int.reduceToNat, Int.reduceEq, Int.reduceAdd, Int.reduceSub, Int.reduceMul, Int.reduceNeg, Nat.reduceMul, Nat.reduceSub, Nat.reduceLeDiff, Nat.reduceLT, Int.reduceGT, Int.reduceBEq, Int.reduceBNe, reduceCtorEq, Nat.reduceAdd, Ins.map, Fr.ev, argFr, argE, binEv, intEv, shEv, strEv, unEv, Fr.mark, evRes, tup, lenD, lookupD, loadD, partD, storeD, cellsD, cellOk, setAt, objNe, objSame, eqEv, readEv, buildD, buildRows, rowsOf, elemsOf]
  · simp (config := {maxSteps := 1000000}) only [s6, c, q1, q2, q3, q4, q17_eq, q18_eq, q11_eq, q8_eq, tb100_e, Int.natCast_nonneg, Nat.le_refl, Int.le_refl, List.take_succ_cons, List.take_zero, decide_true, decide_false, Bool.and_false, Bool.false_and, zz, zzN, zzF, fltEv, isArithF, ↓reduceIte, Nat.reduceEqDiff, Nat.reduceBEq, Int.reduceLT, Int.reduceLE, Int.reduceToNat, Int.reduceEq, Int.reduceAdd, Int.reduceSub, Int.reduceMul, Int.reduceNeg, Nat.reduceMul, Nat.reduceSub, Nat.reduceLeDiff, Nat.reduceLT, Int.reduceGT, Int.reduceBEq, Int.reduceBNe, reduceCtorEq, Nat.reduceAdd, Ins.map, Fr.ev, argFr, argE, binEv, intEv, shEv, strEv, unEv, Fr.mark, evRes, tup, lenD, lookupD, loadD, partD, storeD, cellsD, cellOk, setAt, objNe, objSame, eqEv, readEv, buildD, buildRows, rowsOf, elemsOf]
theorem eqI (l : List W64) : eqInts (encW l) (encW l) = some true := by
  induction l with
  | nil => rfl
  | cons a l ih =>
    show (if IntKind.u64 = IntKind.u64 then (if ofW a == ofW a then eqInts (encW l) (encW l) else some false) else none) = _
    simp [ih]
theorem shaTurns_c (a : List W64) (h : a.length = 25) : PCall Try.prog 3 [.agg (encW a)] (.bool true) := by
  refine PCall.run tb100_ok st3 (by simp) fun E => ?_
  have cW : ∀ l : List W64, (encW l).all cellOk = true := fun l => by simp [encW, cellOk]
  have q1 := q9_eq h
  have q2 := q10_eq h
  have lT : (turnF a 24).length = 25 := by rw [len_turnF, h]
  generalize turnF a 24 = T at *
  have t1 := takeW h
  simp (config := {maxSteps := 1000000}) only [s3, cW, q1, q2, t1, lT, h, eqI, len_encW, plC_encW, frz_encW, q8_eq, tb100_e, Int.natCast_nonneg, Nat.le_refl, Int.le_refl, List.take_succ_cons, List.take_zero, decide_true, decide_false, Bool.and_false, Bool.false_and, zz, zzN, zzF, fltEv, isArithF, ↓reduceIte, Nat.reduceEqDiff, Nat.reduceBEq, Int.reduceLT, Int.reduceLE, Int.reduceToNat, Int.reduceEq, Int.reduceAdd, Int.reduceSub, Int.reduceMul, Int.reduceNeg, Nat.reduceMul, Nat.reduceSub, Nat.reduceLeDiff, Nat.reduceLT, Int.reduceGT, Int.reduceBEq, Int.reduceBNe, reduceCtorEq, Nat.reduceAdd, Ins.map, Fr.ev, argFr, argE, binEv, intEv, shEv, strEv, unEv, Fr.mark, evRes, tup, lenD, lookupD, loadD, partD, storeD, cellsD, cellOk, setAt, objNe, objSame, eqEv, readEv, buildD, buildRows, rowsOf, elemsOf]
theorem ints_W (l : List Int) (w : ∀ n ∈ l, (Lit.int .u64 n).wf = true) : ∃ a : List W64, a.length = l.length ∧ (l.map fun n => D.int .u64 n) = encW a := by
  refine ⟨l.map fun n => BitVec.ofInt 64 n, by simp, ?_⟩
  unfold encW
  rw [List.map_map]
  apply List.map_congr_left
  intro n hn
  have h := w n hn
  simp [Lit.wf, IntKind.min, IntKind.max, IntKind.signed, IntKind.bits] at h
  have : n = ofW (BitVec.ofInt 64 n) := by
    unfold ofW
    rw [BitVec.toNat_ofInt]
    omega
  simp only [Function.comp]
  rw [← this]
theorem shaTurns_i (l : List Int) (h : l.length = 25) (w : ∀ n ∈ l, (Lit.int .u64 n).wf = true) : PCall Try.prog 3 [.agg (l.map fun n => .int .u64 n)] (.bool true) := by
  obtain ⟨a, h1, h2⟩ := ints_W l w
  rw [h2]
  exact shaTurns_c a (by omega)
end Go.Proofs.Ytiilnakenlegmaa.Zz
