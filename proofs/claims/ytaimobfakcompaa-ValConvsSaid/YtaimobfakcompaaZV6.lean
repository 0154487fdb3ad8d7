/- The law of conversions. -/
import Derived.Test.YtaimobfakcompaaZV5
namespace Go.Proofs.Ytaimobfakcompaa.Zz
set_option linter.unusedVariables false
set_option linter.unusedSimpArgs false
set_option maxRecDepth 20000
def p13 : Plan := ⟨⟨[], [], [], [], [], []⟩, []⟩
/-- cupel/cupellaw13.ValConvs (1 parameters, 0 captured) -/
def s13 : Stm :=
  .seq (.ops [⟨.mov (.c (.bool false)), (some 2), none, true⟩])
  (.seq (.ops [⟨.mov (.t 0), (some 10), none, true⟩,
     ⟨.qcall (.f 27) [(.t 10)], (some 11), none, false⟩,
     ⟨.qcall (.f 42) [(.c (.int .i64 2)), (.t 11)], (some 12), none, false⟩,
     ⟨.mov (.t 12), (some 9), none, true⟩,
     ⟨.extract (.t 9) 0, (some 13), none, true⟩,
     ⟨.extract (.t 9) 1, (some 14), none, true⟩,
     ⟨.alloc [(.int .i64 0), (.int .i64 0)], (some 3), none, false⟩,
     ⟨.store 2 (.t 3) (.t 13), none, none, false⟩,
     ⟨.mov (.t 14), (some 4), none, true⟩])
  (.seq (.ops [⟨.load (some 2) (.t 3), (some 16), none, false⟩,
     ⟨.qcall (.f 42) [(.c (.int .i64 1)), (.t 16)], (some 17), none, false⟩,
     ⟨.mov (.t 17), (some 15), none, true⟩,
     ⟨.extract (.t 15) 0, (some 18), none, true⟩,
     ⟨.extract (.t 15) 1, (some 19), none, true⟩,
     ⟨.alloc [(.int .i64 0), (.int .i64 0)], (some 5), none, false⟩,
     ⟨.store 2 (.t 5) (.t 18), none, none, false⟩,
     ⟨.mov (.t 19), (some 6), none, true⟩])
  (.seq (.ops [⟨.mov (.t 0), (some 20), none, true⟩,
     ⟨.bin .geq (.t 20) (.c (.int .i64 (-9007199254740992))), (some 21), none, true⟩,
     ⟨.mov (.t 21), (some 22), none, true⟩,
     ⟨.mov (.t 0), (some 23), (some (22, true)), true⟩,
     ⟨.bin .leq (.t 23) (.c (.int .i64 9007199254740992)), (some 24), (some (22, true)), true⟩,
     ⟨.pick (.t 22) (.t 24) (.c (.bool false)), (some 25), none, true⟩,
     ⟨.mov (.t 25), (some 7), none, true⟩])
  (.seq (.seq (.ops [⟨.qcall (.f 28) [], (some 26), none, false⟩,
      ⟨.un .not (.t 26), (some 27), none, true⟩,
      ⟨.mov (.t 27), (some 28), none, true⟩,
      ⟨.mov (.t 4), (some 29), (some (28, false)), true⟩,
      ⟨.bin .neq (.t 29) (.c (.int .i64 0)), (some 30), (some (28, false)), true⟩,
      ⟨.pick (.t 28) (.c (.bool true)) (.t 30), (some 31), none, true⟩,
      ⟨.mov (.t 31), (some 32), none, true⟩,
      ⟨.mov (.t 7), (some 33), (some (32, false)), true⟩,
      ⟨.mov (.t 33), (some 34), (some (32, false)), true⟩,
      ⟨.mov (.t 6), (some 35), (some (34, true)), true⟩,
      ⟨.bin .neq (.t 35) (.c (.int .i64 0)), (some 36), (some (34, true)), true⟩,
      ⟨.mov (.t 36), (some 37), (some (34, true)), true⟩,
      ⟨.fieldAddr 1 (.t 5), (some 38), (some (37, false)), true⟩,
      ⟨.load none (.t 38), (some 39), (some (37, false)), false⟩,
      ⟨.mov (.t 0), (some 40), (some (37, false)), true⟩,
      ⟨.bin .neq (.t 39) (.t 40), (some 41), (some (37, false)), true⟩,
      ⟨.pick (.t 37) (.c (.bool true)) (.t 41), (some 42), (some (34, true)), true⟩,
      ⟨.pick (.t 34) (.t 42) (.c (.bool false)), (some 43), (some (32, false)), true⟩,
      ⟨.pick (.t 32) (.c (.bool true)) (.t 43), (some 44), none, true⟩])
   (.cond (.t 44)
    (.seq (.ops [⟨.mov (.c (.bool false)), (some 2), none, true⟩])
     (.ret))
    (.skip)))
  (.seq (.seq (.ops [⟨.mov (.t 6), (some 45), none, true⟩,
      ⟨.bin .neq (.t 45) (.c (.int .i64 0)), (some 46), none, true⟩])
   (.cond (.t 46)
    (.seq (.ops [⟨.mov (.t 0), (some 47), none, true⟩,
        ⟨.bin .gtr (.t 47) (.c (.int .i64 9223372036854775295)), (some 48), none, true⟩,
        ⟨.mov (.t 48), (some 2), none, true⟩])
     (.ret))
    (.skip)))
  (.seq (.ops [⟨.fieldAddr 1 (.t 5), (some 49), none, true⟩,
     ⟨.load none (.t 49), (some 50), none, false⟩,
     ⟨.conv (.intInt .u64) (.t 50), (some 51), none, true⟩,
     ⟨.mov (.t 0), (some 52), none, true⟩,
     ⟨.conv (.intInt .u64) (.t 52), (some 53), none, true⟩,
     ⟨.bin .sub (.t 51) (.t 53), (some 54), none, true⟩,
     ⟨.mov (.t 54), (some 8), none, true⟩])
  (.seq (.seq (.ops [⟨.fieldAddr 1 (.t 5), (some 55), none, true⟩,
      ⟨.load none (.t 55), (some 56), none, false⟩,
      ⟨.mov (.t 0), (some 57), none, true⟩,
      ⟨.bin .lss (.t 56) (.t 57), (some 58), none, true⟩])
   (.cond (.t 58)
    (.ops [⟨.mov (.t 0), (some 59), none, true⟩,
       ⟨.conv (.intInt .u64) (.t 59), (some 60), none, true⟩,
       ⟨.fieldAddr 1 (.t 5), (some 61), none, true⟩,
       ⟨.load none (.t 61), (some 62), none, false⟩,
       ⟨.conv (.intInt .u64) (.t 62), (some 63), none, true⟩,
       ⟨.bin .sub (.t 60) (.t 63), (some 64), none, true⟩,
       ⟨.mov (.t 64), (some 8), none, true⟩])
    (.skip)))
  (.seq (.ops [⟨.mov (.t 8), (some 65), none, true⟩,
     ⟨.bin .leq (.t 65) (.c (.int .u64 512)), (some 66), none, true⟩,
     ⟨.mov (.t 66), (some 2), none, true⟩])
  (.ret)))))))))
theorem st13 : stmOf Try.prog 13 p13 = some (s13, [.tmp 2], 67) := by kernel_rfl

def truncB (x : Nat) : Option Nat :=
  match FloatKind.f64.decode x with
  | .nan _ t => if FloatKind.f64.format.quiet t = t then some x else none
  | d => some (FloatKind.f64.encode (d.integral .zero))
theorem xTrunc_eq (x : Nat) : xTrunc [.float .f64 x] = (truncB x).map (.float .f64) := by
  simp only [xTrunc, truncB]
  cases FloatKind.f64.decode x with
  | nan s t => simp only; split <;> simp
  | _ => rfl
def tb81 : Tab := tb28.addQ 81 xTrunc
theorem tb81_q (g : FuncId) (args : List D) : tb81.q g args = if g = 81 then xTrunc args else tb28.q g args := rfl
theorem tb81_a : tb81.a = tb28.a := rfl
theorem tb81_c : tb81.c = tb28.c := rfl
theorem tb81_ok : tb81.ok Try.prog := Tab.addX_ok tb28_ok (xTrunc_ok ext81)
theorem tb81_e : type_of% (And.intro (And.intro @tb81_q (And.intro @tb81_a @tb81_c)) @tb28_e) := (And.intro (And.intro @tb81_q (And.intro @tb81_a @tb81_c)) @tb28_e)

theorem trunc_c (x y : Nat) (h : truncB x = some y) : PCall Try.prog 67 [.float .f64 x] (.float .f64 y) := by
  refine PCall.run tb81_ok st67 (by simp) fun E => ?_
  simp only [s67, xTrunc_eq, h, tb81_e, Int.natCast_nonneg, Nat.le_refl, Int.le_refl, List.take_succ_cons, List.take_zero, decide_true, decide_false, Bool.and_false, Bool.false_and, zz, zzN, zzF, fltEv, isArithF, ↓reduceIte, Nat.reduceEqDiff, Nat.reduceBEq, Int.reduceLT, Int.reduceLE, Int.reduceToNat, Int.reduceEq, Int.reduceAdd, Int.reduceSub, Int.reduceMul, Int.reduceNeg, Nat.reduceMul, Nat.reduceSub, Nat.reduceLeDiff, Nat.reduceLT, Int.reduceGT, Int.reduceBEq, Int.reduceBNe, reduceCtorEq, Nat.reduceAdd, Ins.map, Fr.ev, argFr, argE, binEv, intEv, shEv, strEv, unEv, Fr.mark, evRes, tup, lenD, lookupD, loadD, partD, storeD, cellsD, cellOk, setAt, objNe, objSame, eqEv, readEv, buildD, buildRows, rowsOf, elemsOf]
def q67 : List D → Option D
  | [.float .f64 x] => (truncB x).map (.float .f64)
  | _ => none
theorem q67_ok (args : List D) (d : D) (h : q67 args = some d) : PCall Try.prog 67 args d := by
  unfold q67 at h
  split at h
  · simp only [Option.map_eq_some_iff] at h
    obtain ⟨y, h1, rfl⟩ := h
    exact trunc_c _ _ h1
  · cases h
def tb67 : Tab := tb81.addQ 67 q67
theorem tb67_q (g : FuncId) (args : List D) : tb67.q g args = if g = 67 then q67 args else tb81.q g args := rfl
theorem tb67_a : tb67.a = tb81.a := rfl
theorem tb67_c : tb67.c = tb81.c := rfl
theorem tb67_ok : tb67.ok Try.prog := Tab.addQ_ok tb81_ok q67_ok
theorem tb67_e : type_of% (And.intro (And.intro @tb67_q (And.intro @tb67_a @tb67_c)) @tb81_e) := (And.intro (And.intro @tb67_q (And.intro @tb67_a @tb67_c)) @tb81_e)

/-- Is a number with a point, cut, no whole number? -/
def badB (f : Nat) : Bool := FloatKind.f64.format.order f f != some .eq || (FloatKind.f64.format.order f 4890909195324358656 == some .gt || FloatKind.f64.format.order f 4890909195324358656 == some .eq) || FloatKind.f64.format.order f 14114281232179134464 == some .lt
/-- Another type's value. -/
def convK (t T N : Int) : Option ((Int × Int) × Int) :=
  if (t == T && (t == 1 || t == 2)) = true then some ((T, N), 0)
  else if (t == 2 && T == 1) = true then some ((2, IntKind.i64.wrap (canon (FloatKind.f64.nearest N))), 0)
  else if (t == 1 && T == 2) = true then
    (match truncB (bitsOf N) with
    | some f => if badB f = true then some ((0, 0), 4) else (floatToIntVal .f64 f .i64).map fun n => ((1, n), 0)
    | none => none)
  else some ((0, 0), 0)
set_option maxHeartbeats 1000000 in
theorem conv_c (t T N : Int) (r : (Int × Int) × Int) (h : convK t T N = some r) : PCall Try.prog 42 [.int .i64 t, valD T N] (resD r) := by
  refine PCall.run tb67_ok st42 (by simp) fun E => ?_
  simp (config := {maxSteps := 1000000}) only [s42, valD, cellsD, tb67_e, Int.natCast_nonneg, Nat.le_refl, Int.le_refl, List.take_succ_cons, List.take_zero, decide_true, decide_false, Bool.and_false, Bool.false_and, zz, zzN, zzF, fltEv, isArithF, ↓reduceIte, Nat.reduceEqDiff, Nat.reduceBEq, Int.reduceLT, Int.reduceLE, Int.reduceToNat, Int.reduceEq, Int.reduceAdd, Int.reduceSub, Int.reduceMul, Int.reduceNeg, Nat.reduceMul, Nat.reduceSub, Nat.reduceLeDiff, Nat.reduceLT, Int.reduceGT, Int.reduceBEq, Int.reduceBNe, reduceCtorEq, Nat.reduceAdd, Ins.map, Fr.ev, argFr, argE, binEv, intEv, shEv, strEv, unEv, Fr.mark, evRes, tup, lenD, lookupD, loadD, partD, storeD, cellsD, cellOk, setAt, objNe, objSame, eqEv, readEv, buildD, buildRows, rowsOf, elemsOf]
  intro i1 i2 a2_1 b2_1
  unfold convK at h
  cases h1 : (t == T) <;> cases h2 : (t == 1) <;> cases h3 : (t == 2) <;> cases h4 : (T == 1) <;> cases h5 : (T == 2)
  all_goals try (exfalso; simp at h1 h2 h3 h4 h5; omega)
  all_goals simp only [h1, h2, h3, h4, h5, Bool.and_true, Bool.true_and, Bool.or_true, Bool.or_false, Bool.and_false, Bool.or_self, Bool.and_self, Bool.false_eq_true, if_true, if_false, Option.some.injEq] at h
  all_goals try (subst h; simp (config := {maxSteps := 1000000}) only [h1, h2, h3, h4, h5, a2_1, b2_1, q27, q32, resD, valD, tb67_e, Int.natCast_nonneg, Nat.le_refl, Int.le_refl, List.take_succ_cons, List.take_zero, decide_true, decide_false, Bool.and_false, Bool.false_and, zz, zzN, zzF, fltEv, isArithF, ↓reduceIte, Nat.reduceEqDiff, Nat.reduceBEq, Int.reduceLT, Int.reduceLE, Int.reduceToNat, Int.reduceEq, Int.reduceAdd, Int.reduceSub, Int.reduceMul, Int.reduceNeg, Nat.reduceMul, Nat.reduceSub, Nat.reduceLeDiff, Nat.reduceLT, Int.reduceGT, Int.reduceBEq, Int.reduceBNe, reduceCtorEq, Nat.reduceAdd, Ins.map, Fr.ev, argFr, argE, binEv, intEv, shEv, strEv, unEv, Fr.mark, evRes, tup, lenD, lookupD, loadD, partD, storeD, cellsD, cellOk, setAt, objNe, objSame, eqEv, readEv, buildD, buildRows, rowsOf, elemsOf]; done)
  all_goals
    cases ht : truncB (bitsOf N) with
    | none => rw [ht] at h; cases h
    | some f =>
      rw [ht] at h
      simp only at h
      cases e1 : (FloatKind.f64.format.order f f != some .eq) with
      | true =>
        have hb : badB f = true := by simp only [badB, e1, Bool.true_or]
        rw [if_pos hb] at h; cases h
        simp (config := {maxSteps := 1000000}) only [h1, h2, h3, h4, h5, e1, a2_1, b2_1, ht, q30, q67, q27, q32, resD, valD, tb67_e, Int.natCast_nonneg, Nat.le_refl, Int.le_refl, List.take_succ_cons, List.take_zero, decide_true, decide_false, Bool.and_false, Bool.false_and, zz, zzN, zzF, fltEv, isArithF, ↓reduceIte, Nat.reduceEqDiff, Nat.reduceBEq, Int.reduceLT, Int.reduceLE, Int.reduceToNat, Int.reduceEq, Int.reduceAdd, Int.reduceSub, Int.reduceMul, Int.reduceNeg, Nat.reduceMul, Nat.reduceSub, Nat.reduceLeDiff, Nat.reduceLT, Int.reduceGT, Int.reduceBEq, Int.reduceBNe, reduceCtorEq, Nat.reduceAdd, Ins.map, Fr.ev, argFr, argE, binEv, intEv, shEv, strEv, unEv, Fr.mark, evRes, tup, lenD, lookupD, loadD, partD, storeD, cellsD, cellOk, setAt, objNe, objSame, eqEv, readEv, buildD, buildRows, rowsOf, elemsOf]
      | false =>
        cases e2 : (FloatKind.f64.format.order f 4890909195324358656 == some .gt || FloatKind.f64.format.order f 4890909195324358656 == some .eq) with
        | true =>
          have hb : badB f = true := by simp only [badB, e1, e2, Bool.true_or, Bool.false_or]
          rw [if_pos hb] at h; cases h
          simp (config := {maxSteps := 1000000}) only [h1, h2, h3, h4, h5, e1, e2, a2_1, b2_1, ht, q30, q67, q27, q32, resD, valD, tb67_e, Int.natCast_nonneg, Nat.le_refl, Int.le_refl, List.take_succ_cons, List.take_zero, decide_true, decide_false, Bool.and_false, Bool.false_and, zz, zzN, zzF, fltEv, isArithF, ↓reduceIte, Nat.reduceEqDiff, Nat.reduceBEq, Int.reduceLT, Int.reduceLE, Int.reduceToNat, Int.reduceEq, Int.reduceAdd, Int.reduceSub, Int.reduceMul, Int.reduceNeg, Nat.reduceMul, Nat.reduceSub, Nat.reduceLeDiff, Nat.reduceLT, Int.reduceGT, Int.reduceBEq, Int.reduceBNe, reduceCtorEq, Nat.reduceAdd, Ins.map, Fr.ev, argFr, argE, binEv, intEv, shEv, strEv, unEv, Fr.mark, evRes, tup, lenD, lookupD, loadD, partD, storeD, cellsD, cellOk, setAt, objNe, objSame, eqEv, readEv, buildD, buildRows, rowsOf, elemsOf]
        | false =>
          cases e3 : (FloatKind.f64.format.order f 14114281232179134464 == some .lt) with
          | true =>
            have hb : badB f = true := by simp only [badB, e1, e2, e3, Bool.true_or, Bool.false_or]
            rw [if_pos hb] at h; cases h
            simp (config := {maxSteps := 1000000}) only [h1, h2, h3, h4, h5, e1, e2, e3, a2_1, b2_1, ht, q30, q67, q27, q32, resD, valD, tb67_e, Int.natCast_nonneg, Nat.le_refl, Int.le_refl, List.take_succ_cons, List.take_zero, decide_true, decide_false, Bool.and_false, Bool.false_and, zz, zzN, zzF, fltEv, isArithF, ↓reduceIte, Nat.reduceEqDiff, Nat.reduceBEq, Int.reduceLT, Int.reduceLE, Int.reduceToNat, Int.reduceEq, Int.reduceAdd, Int.reduceSub, Int.reduceMul, Int.reduceNeg, Nat.reduceMul, Nat.reduceSub, Nat.reduceLeDiff, Nat.reduceLT, Int.reduceGT, Int.reduceBEq, Int.reduceBNe, reduceCtorEq, Nat.reduceAdd, Ins.map, Fr.ev, argFr, argE, binEv, intEv, shEv, strEv, unEv, Fr.mark, evRes, tup, lenD, lookupD, loadD, partD, storeD, cellsD, cellOk, setAt, objNe, objSame, eqEv, readEv, buildD, buildRows, rowsOf, elemsOf]
          | false =>
            have hb : badB f = false := by simp only [badB, e1, e2, e3, Bool.false_or]
            rw [if_neg (by rw [hb]; exact Bool.false_ne_true), Option.map_eq_some_iff] at h
            obtain ⟨n, hn, rfl⟩ := h
            simp (config := {maxSteps := 1000000}) only [h1, h2, h3, h4, h5, e1, e2, e3, hn, a2_1, b2_1, ht, q30, q67, q27, q32, resD, valD, tb67_e, Int.natCast_nonneg, Nat.le_refl, Int.le_refl, List.take_succ_cons, List.take_zero, decide_true, decide_false, Bool.and_false, Bool.false_and, zz, zzN, zzF, fltEv, isArithF, ↓reduceIte, Nat.reduceEqDiff, Nat.reduceBEq, Int.reduceLT, Int.reduceLE, Int.reduceToNat, Int.reduceEq, Int.reduceAdd, Int.reduceSub, Int.reduceMul, Int.reduceNeg, Nat.reduceMul, Nat.reduceSub, Nat.reduceLeDiff, Nat.reduceLT, Int.reduceGT, Int.reduceBEq, Int.reduceBNe, reduceCtorEq, Nat.reduceAdd, Ins.map, Fr.ev, argFr, argE, binEv, intEv, shEv, strEv, unEv, Fr.mark, evRes, tup, lenD, lookupD, loadD, partD, storeD, cellsD, cellOk, setAt, objNe, objSame, eqEv, readEv, buildD, buildRows, rowsOf, elemsOf]
def q42 : List D → Option D
  | [.int .i64 t, .agg [.int .i64 T, .int .i64 N]] => (convK t T N).map resD
  | _ => none
theorem q42_ok (args : List D) (d : D) (h : q42 args = some d) : PCall Try.prog 42 args d := by
  unfold q42 at h
  split at h
  · simp only [Option.map_eq_some_iff] at h
    obtain ⟨y, h1, rfl⟩ := h
    exact conv_c _ _ _ _ h1
  · cases h
def tb42 : Tab := tb67.addQ 42 q42
theorem tb42_q (g : FuncId) (args : List D) : tb42.q g args = if g = 42 then q42 args else tb67.q g args := rfl
theorem tb42_a : tb42.a = tb67.a := rfl
theorem tb42_c : tb42.c = tb67.c := rfl
theorem tb42_ok : tb42.ok Try.prog := Tab.addQ_ok tb67_ok q42_ok
theorem tb42_e : type_of% (And.intro (And.intro @tb42_q (And.intro @tb42_a @tb42_c)) @tb67_e) := (And.intro (And.intro @tb42_q (And.intro @tb42_a @tb42_c)) @tb67_e)

end Go.Proofs.Ytaimobfakcompaa.Zz
