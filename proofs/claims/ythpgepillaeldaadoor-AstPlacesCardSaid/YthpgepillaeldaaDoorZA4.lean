/- Contracts: trees counted, and compared. -/
import Derived.Test.YthpgepillaeldaaDoorZA3
set_option linter.unnecessarySimpa false
namespace Go.Proofs.YthpgepillaeldaaDoor.Zz
noncomputable section
set_option linter.unusedVariables false
set_option linter.unusedSimpArgs false
set_option maxRecDepth 20000
def p14n : Plan := ⟨⟨[], [], [], [], [], []⟩, [], [], false⟩
/-- cupel/ast.Count (1 parameters, 0 captured) -/
def s14n : Stm :=
  .seq (.ops [⟨.box (.t 0), (some 1), none, false⟩,
     ⟨.mov (.c (.int .i64 0)), (some 2), none, true⟩])
  (.seq (.ops [⟨.mov (.c (.int .i64 1)), (some 3), none, true⟩])
  (.seq (.seq (.ops [⟨.fieldAddr 4 (.t 1), (some 6), none, true⟩,
      ⟨.load none (.t 6), (some 7), none, false⟩,
      ⟨.len .sl (.t 7), (some 8), none, false⟩,
      ⟨.mov (.c (.int .i64 0)), (some 9), none, true⟩])
   (.block 0 (.loop (.seq (.ops [⟨.bin .lss (.t 9) (.t 8), (some 10), none, true⟩])
     (.seq (.cond (.t 10)
       (.skip)
       (.exit 0))
     (.seq (.block 1 (.seq (.ops [⟨.indexAddrS 5 (.t 7) (.t 9), (some 11), none, false⟩,
          ⟨.load (some 5) (.t 11), (some 12), none, false⟩,
          ⟨.alloc [(.int .i64 0), (.int .i64 0), (.str []), (.int .i64 0), .nilsl], (some 5), none, false⟩,
          ⟨.store 5 (.t 5) (.t 12), none, none, false⟩])
       (.ops [⟨.mov (.t 3), (some 13), none, true⟩,
         ⟨.load (some 5) (.t 5), (some 14), none, false⟩,
         ⟨.qcall (.f 14) [(.t 14)], (some 15), none, false⟩,
         ⟨.bin .add (.t 13) (.t 15), (some 16), none, true⟩,
         ⟨.mov (.t 16), (some 3), none, true⟩])))
     (.ops [⟨.bin .add (.t 9) (.c (.int .i64 1)), (some 17), none, true⟩,
       ⟨.mov (.t 17), (some 9), none, true⟩])))))))
  (.seq (.ops [⟨.mov (.t 3), (some 18), none, true⟩,
     ⟨.mov (.t 18), (some 2), none, true⟩])
  (.ret))))
theorem st14n : stmOf Tryd.prog 14 p14n = some (s14n, [.tmp 2], 19) := by kernel_rfl

def p19n : Plan := ⟨⟨[], [], [], [], [], []⟩, [], [], false⟩
/-- cupel/ast.Same (2 parameters, 0 captured) -/
def s19n : Stm :=
  .seq (.ops [⟨.box (.t 0), (some 2), none, false⟩,
     ⟨.box (.t 1), (some 3), none, false⟩,
     ⟨.mov (.c (.bool false)), (some 4), none, true⟩])
  (.seq (.ops [⟨.fieldAddr 0 (.t 2), (some 5), none, true⟩,
     ⟨.load none (.t 5), (some 6), none, false⟩,
     ⟨.fieldAddr 0 (.t 3), (some 7), none, true⟩,
     ⟨.load none (.t 7), (some 8), none, false⟩,
     ⟨.bin .eql (.t 6) (.t 8), (some 9), none, true⟩,
     ⟨.mov (.t 9), (some 10), none, true⟩,
     ⟨.fieldAddr 1 (.t 2), (some 11), (some (10, true)), true⟩,
     ⟨.load none (.t 11), (some 12), (some (10, true)), false⟩,
     ⟨.fieldAddr 1 (.t 3), (some 13), (some (10, true)), true⟩,
     ⟨.load none (.t 13), (some 14), (some (10, true)), false⟩,
     ⟨.bin .eql (.t 12) (.t 14), (some 15), (some (10, true)), true⟩,
     ⟨.pick (.t 10) (.t 15) (.c (.bool false)), (some 16), none, true⟩,
     ⟨.mov (.t 16), (some 17), none, true⟩,
     ⟨.fieldAddr 2 (.t 2), (some 18), (some (17, true)), true⟩,
     ⟨.load none (.t 18), (some 19), (some (17, true)), false⟩,
     ⟨.fieldAddr 2 (.t 3), (some 20), (some (17, true)), true⟩,
     ⟨.load none (.t 20), (some 21), (some (17, true)), false⟩,
     ⟨.bin .eql (.t 19) (.t 21), (some 22), (some (17, true)), true⟩,
     ⟨.pick (.t 17) (.t 22) (.c (.bool false)), (some 23), none, true⟩,
     ⟨.mov (.t 23), (some 24), none, true⟩,
     ⟨.fieldAddr 3 (.t 2), (some 25), (some (24, true)), true⟩,
     ⟨.load none (.t 25), (some 26), (some (24, true)), false⟩,
     ⟨.fieldAddr 3 (.t 3), (some 27), (some (24, true)), true⟩,
     ⟨.load none (.t 27), (some 28), (some (24, true)), false⟩,
     ⟨.bin .eql (.t 26) (.t 28), (some 29), (some (24, true)), true⟩,
     ⟨.pick (.t 24) (.t 29) (.c (.bool false)), (some 30), none, true⟩,
     ⟨.mov (.t 30), (some 31), none, true⟩,
     ⟨.fieldAddr 4 (.t 2), (some 32), (some (31, true)), true⟩,
     ⟨.load none (.t 32), (some 33), (some (31, true)), false⟩,
     ⟨.fieldAddr 4 (.t 3), (some 34), (some (31, true)), true⟩,
     ⟨.load none (.t 34), (some 35), (some (31, true)), false⟩,
     ⟨.qcall (.f 45) [(.t 33), (.t 35), (.f 19)], (some 36), (some (31, true)), false⟩,
     ⟨.pick (.t 31) (.t 36) (.c (.bool false)), (some 37), none, true⟩,
     ⟨.mov (.t 37), (some 4), none, true⟩])
  (.ret))
theorem st19n : stmOf Tryd.prog 19 p19n = some (s19n, [.tmp 4], 38) := by kernel_rfl

def p45n : Plan := ⟨⟨[], [], [], [], [], []⟩, [], [], false⟩
/-- slices.EqualFunc[[]cupel/api.Node,[]cupel/api.Node,cupel/api.Node,cupel/api.Node] (3 parameters, 0 captured) -/
def s45n : Stm :=
  .seq (.ops [⟨.mov (.c (.bool false)), (some 6), none, true⟩])
  (.seq (.seq (.ops [⟨.mov (.t 0), (some 10), none, true⟩,
      ⟨.len .sl (.t 10), (some 11), none, false⟩,
      ⟨.mov (.t 1), (some 12), none, true⟩,
      ⟨.len .sl (.t 12), (some 13), none, false⟩,
      ⟨.bin .neq (.t 11) (.t 13), (some 14), none, true⟩])
   (.cond (.t 14)
    (.seq (.ops [⟨.mov (.c (.bool false)), (some 6), none, true⟩])
     (.ret))
    (.skip)))
  (.seq (.seq (.ops [⟨.mov (.t 0), (some 15), none, true⟩,
      ⟨.len .sl (.t 15), (some 16), none, false⟩,
      ⟨.mov (.c (.int .i64 0)), (some 17), none, true⟩])
   (.block 0 (.loop (.seq (.ops [⟨.bin .lss (.t 17) (.t 16), (some 18), none, true⟩])
     (.seq (.cond (.t 18)
       (.skip)
       (.exit 0))
     (.seq (.block 1 (.seq (.ops [⟨.mov (.t 17), (some 19), none, true⟩,
          ⟨.indexAddrS 5 (.t 15) (.t 17), (some 20), none, false⟩,
          ⟨.load (some 5) (.t 20), (some 21), none, false⟩,
          ⟨.alloc [(.int .i64 0), (.int .i64 0), (.str []), (.int .i64 0), .nilsl], (some 8), none, false⟩,
          ⟨.mov (.t 19), (some 7), none, true⟩,
          ⟨.store 5 (.t 8) (.t 21), none, none, false⟩])
       (.seq (.ops [⟨.mov (.t 1), (some 22), none, true⟩,
          ⟨.mov (.t 7), (some 23), none, true⟩,
          ⟨.indexAddrS 5 (.t 22) (.t 23), (some 24), none, false⟩,
          ⟨.load (some 5) (.t 24), (some 25), none, false⟩,
          ⟨.alloc [(.int .i64 0), (.int .i64 0), (.str []), (.int .i64 0), .nilsl], (some 9), none, false⟩,
          ⟨.store 5 (.t 9) (.t 25), none, none, false⟩])
       (.seq (.ops [⟨.mov (.t 2), (some 26), none, true⟩,
          ⟨.load (some 5) (.t 8), (some 27), none, false⟩,
          ⟨.load (some 5) (.t 9), (some 28), none, false⟩,
          ⟨.qcall (.t 26) [(.t 27), (.t 28)], (some 29), none, false⟩,
          ⟨.un .not (.t 29), (some 30), none, true⟩])
       (.cond (.t 30)
        (.seq (.ops [⟨.mov (.c (.bool false)), (some 6), none, true⟩])
         (.ret))
        (.skip))))))
     (.ops [⟨.bin .add (.t 17) (.c (.int .i64 1)), (some 31), none, true⟩,
       ⟨.mov (.t 31), (some 17), none, true⟩])))))))
  (.seq (.ops [⟨.mov (.c (.bool true)), (some 6), none, true⟩])
  (.ret))))
theorem st45n : stmOf Tryd.prog 45 p45n = some (s45n, [.tmp 6], 32) := by kernel_rfl

def tb13n : Tab := tb100n.addQ 13 q13n
theorem tb13n_q (g : FuncId) (args : List D) : tb13n.q g args = if g = 13 then q13n args else tb100n.q g args := rfl
theorem tb13n_a : tb13n.a = tb100n.a := rfl
theorem tb13n_c : tb13n.c = tb100n.c := rfl
theorem tb13n_ok : tb13n.ok Tryd.prog := Tab.addQ_ok tb100n_ok q13n_ok
theorem tb13n_e : type_of% (And.intro (And.intro @tb13n_q (And.intro @tb13n_a @tb13n_c)) @tb100n_e) := (And.intro (And.intro @tb13n_q (And.intro @tb13n_a @tb13n_c)) @tb100n_e)

theorem cnts_take {l : List Nd} {i : Nat} {x : Nd} (h : l[i]? = some x) : Nd.cnts (l.take (i + 1)) = Nd.cnts (l.take i) + x.cnt := by
  rw [List.take_add_one, h, cnts_app]; simp [cnts_cons, cnts_nil]
theorem cnts_le (l : List Nd) (i : Nat) : Nd.cnts (l.take i) ≤ Nd.cnts l := by
  have := congrArg Nd.cnts (List.take_append_drop i l)
  rw [cnts_app] at this; omega
theorem cnts_len : ∀ l : List Nd, l.length ≤ Nd.cnts l
  | [] => Nat.zero_le _
  | x :: l => by have := cnts_len l; have := cnt_pos x; rw [cnts_cons, List.length_cons]; omega
def qCnt (f : Nat) : List D → Option D
  | [.agg ds] => match decN ds with
    | some n => if n.cnt < f then some (.int .i64 n.cnt) else none
    | none => none
  | _ => none
set_option maxHeartbeats 1000000 in
theorem count_step (f : Nat) (hf : f < 9223372036854775807) (hT : (Tab.zero.addQ 14 (qCnt f)).ok Tryd.prog) (n : Nd) (hn : n.cnt < f + 1) : PCall Tryd.prog 14 [.agg n.enc] (.int .i64 n.cnt) := by
  refine PCall.run hT st14n (by simp) fun E => ?_
  have hT_q : ∀ g args, (Tab.zero.addQ 14 (qCnt f)).q g args = if g = 14 then qCnt f args else Tab.zero.q g args := fun g args => rfl
  have hq : ∀ y : Nd, y.cnt < f → qCnt f [.agg y.enc] = some (.int .i64 y.cnt) := fun y hy => by simp only [qCnt, decN_enc, hy, if_true]
  generalize Tab.zero.addQ 14 (qCnt f) = TT at hT_q ⊢
  obtain ⟨k, t, x, m, l⟩ := n
  have hcnt : ∀ y ∈ l, y.cnt < f := fun y hy => by have := cnt_kid (k := k) (t := t) (s := x) (n := m) hy; omega
  rw [cnt_mk] at hn ⊢
  rw [enc_mk]
  simp (config := {maxSteps := 1000000}) only [s14n, hT_q, i_callNe, Int.natCast_nonneg, Nat.le_refl, Int.le_refl, List.take_succ_cons, List.take_zero, decide_true, decide_false, Bool.and_false, Bool.false_and, zz, zzN, zzF, zzD, zzM, cond_true, cond_false, ↓reduceIte, Nat.reduceEqDiff, Nat.reduceBEq, Int.reduceLT, Int.reduceLE, Int.reduceToNat, Int.reduceEq, Int.reduceAdd, Int.reduceSub, Int.reduceMul, Int.reduceNeg, Nat.reduceMul, Nat.reduceSub, Nat.reduceLeDiff, Nat.reduceLT, Int.reduceGT, Int.reduceGE, Int.reduceBEq, Int.reduceBNe, reduceCtorEq, Nat.reduceAdd]
  intro i1 _
  refine run_loop (X := Nat) (fun z => [(3, .int .i64 (1 + Nd.cnts (l.take z) : Nat)), (7, .sl (Nd.encs l)), (8, .int .i64 l.length), (9, .int .i64 z)])
    (fun z => .emp) (fun z => l.length - z) (fun z => z ≤ l.length) 0 (Nat.zero_le _) ?_ ?_ ?_
  · simp only [len_encs, List.take_zero, cnts_nil, i_callNe, Int.natCast_nonneg, Nat.le_refl, Int.le_refl, List.take_succ_cons, List.take_zero, decide_true, decide_false, Bool.and_false, Bool.false_and, zz, zzN, zzF, zzD, zzM, cond_true, cond_false, ↓reduceIte, Nat.reduceEqDiff, Nat.reduceBEq, Int.reduceLT, Int.reduceLE, Int.reduceToNat, Int.reduceEq, Int.reduceAdd, Int.reduceSub, Int.reduceMul, Int.reduceNeg, Nat.reduceMul, Nat.reduceSub, Nat.reduceLeDiff, Nat.reduceLT, Int.reduceGT, Int.reduceGE, Int.reduceBEq, Int.reduceBNe, reduceCtorEq, Nat.reduceAdd]
  · exact AHeap.emp_sub _
  intro i Q j0 hQ
  cases c : decide (i < l.length) with
  | false =>
    have e0 : i = l.length := by simp at c; omega
    have g : ((i : Int) < l.length) = False := eq_false (by omega)
    simp (config := {maxSteps := 1000000}) only [g, hT_q, i_callNe, Int.natCast_nonneg, Nat.le_refl, Int.le_refl, List.take_succ_cons, List.take_zero, decide_true, decide_false, Bool.and_false, Bool.false_and, zz, zzN, zzF, zzD, zzM, cond_true, cond_false, ↓reduceIte, Nat.reduceEqDiff, Nat.reduceBEq, Int.reduceLT, Int.reduceLE, Int.reduceToNat, Int.reduceEq, Int.reduceAdd, Int.reduceSub, Int.reduceMul, Int.reduceNeg, Nat.reduceMul, Nat.reduceSub, Nat.reduceLeDiff, Nat.reduceLT, Int.reduceGT, Int.reduceGE, Int.reduceBEq, Int.reduceBNe, reduceCtorEq, Nat.reduceAdd]
    rw [e0, List.take_length]; exact .inl rfl
  | true =>
    have c : i < l.length := by simpa using c
    obtain ⟨y, hy⟩ : ∃ y, l[i]? = some y := ⟨_, List.getElem?_eq_getElem c⟩
    have g : ((i : Int) < l.length) = True := eq_true (by omega)
    have hym : y ∈ l := List.mem_of_getElem? hy
    have wi : IntKind.i64.wrap ((i : Int) + 1) = ((i + 1 : Nat) : Int) := wrap_succ (by have := cnts_len l; omega)
    have hp := part_enc y
    have hac : ∀ (K : D → AHeap → Prop) (h : AHeap), askE 5 K h (Nd.encs l) (i : Int) = K (.eptr y.enc 0) h := fun K h => askE_encs hy
    have hqy := hq y (hcnt y hym)
    have ht := cnts_take hy
    have hle := cnts_le l (i + 1)
    have ws : IntKind.i64.wrap (((1 + Nd.cnts (l.take i) : Nat) : Int) + (y.cnt : Int)) = ((1 + Nd.cnts (l.take (i + 1)) : Nat) : Int) := by
      rw [wrap_add (by omega), ht, Nat.add_assoc]
    generalize y.cnt = yc at *
    clear hym hy ht
    obtain ⟨yk, yt, yx, ym, yl⟩ := y
    rw [enc_mk] at *
    simp (config := {maxSteps := 1000000}) only [g, hac, hp, wi, hqy, ws, hT_q, i_callNe, Int.natCast_nonneg, Nat.le_refl, Int.le_refl, List.take_succ_cons, List.take_zero, decide_true, decide_false, Bool.and_false, Bool.false_and, zz, zzN, zzF, zzD, zzM, cond_true, cond_false, ↓reduceIte, Nat.reduceEqDiff, Nat.reduceBEq, Int.reduceLT, Int.reduceLE, Int.reduceToNat, Int.reduceEq, Int.reduceAdd, Int.reduceSub, Int.reduceMul, Int.reduceNeg, Nat.reduceMul, Nat.reduceSub, Nat.reduceLeDiff, Nat.reduceLT, Int.reduceGT, Int.reduceGE, Int.reduceBEq, Int.reduceBNe, reduceCtorEq, Nat.reduceAdd]
    intro i5
    exact hQ (i + 1) _ _ c (by simp only [i_callNe, Int.natCast_nonneg, Nat.le_refl, Int.le_refl, List.take_succ_cons, List.take_zero, decide_true, decide_false, Bool.and_false, Bool.false_and, zz, zzN, zzF, zzD, zzM, cond_true, cond_false, ↓reduceIte, Nat.reduceEqDiff, Nat.reduceBEq, Int.reduceLT, Int.reduceLE, Int.reduceToNat, Int.reduceEq, Int.reduceAdd, Int.reduceSub, Int.reduceMul, Int.reduceNeg, Nat.reduceMul, Nat.reduceSub, Nat.reduceLeDiff, Nat.reduceLT, Int.reduceGT, Int.reduceGE, Int.reduceBEq, Int.reduceBNe, reduceCtorEq, Nat.reduceAdd]) (AHeap.emp_sub _) (by omega)
theorem tbC_ok : ∀ f, f ≤ 9223372036854775807 → (Tab.zero.addQ 14 (qCnt f)).ok Tryd.prog
  | 0, _ => Tab.addQ_ok (Tab.zero_ok _) fun args d h => by
    unfold qCnt at h
    split at h
    · split at h
      · split at h
        · omega
        · cases h
      · cases h
    · cases h
  | f + 1, hf => Tab.addQ_ok (Tab.zero_ok _) fun args d h => by
    unfold qCnt at h
    split at h
    · split at h
      · rename_i e
        split at h
        · cases h
          rw [decN_some e]
          exact count_step f (by omega) (tbC_ok f (by omega)) _ (by assumption)
        · cases h
      · cases h
    · cases h
theorem counted_c (n : Nd) (h : n.cnt < 9223372036854775807) : PCall Tryd.prog 14 [.agg n.enc] (.int .i64 n.cnt) := count_step n.cnt h (tbC_ok _ (by omega)) n (by omega)
def q14n : List D → Option D
  | [.agg ds] => match decN ds with
    | some n => if n.cnt < 9223372036854775807 then some (.int .i64 n.cnt) else none
    | none => none
  | _ => none
theorem q14n_ok (args : List D) (d : D) (h : q14n args = some d) : PCall Tryd.prog 14 args d := by
  unfold q14n at h
  split at h
  · split at h
    · rename_i e
      split at h
      · cases h
        rw [decN_some e]
        exact counted_c _ (by assumption)
      · cases h
    · cases h
  · cases h
def tb14n : Tab := tb13n.addQ 14 q14n
theorem tb14n_q (g : FuncId) (args : List D) : tb14n.q g args = if g = 14 then q14n args else tb13n.q g args := rfl
theorem tb14n_a : tb14n.a = tb13n.a := rfl
theorem tb14n_c : tb14n.c = tb13n.c := rfl
theorem tb14n_ok : tb14n.ok Tryd.prog := Tab.addQ_ok tb13n_ok q14n_ok
theorem tb14n_e : type_of% (And.intro (And.intro @tb14n_q (And.intro @tb14n_a @tb14n_c)) @tb13n_e) := (And.intro (And.intro @tb14n_q (And.intro @tb14n_a @tb14n_c)) @tb13n_e)

/-- Are two trees the same? -/
def sameN (a b : Nd) : Bool := @decide (a = b) (Classical.propDecidable _)
def sameL (a b : List Nd) : Bool := @decide (a = b) (Classical.propDecidable _)
theorem sameN_iff {a b : Nd} : sameN a b = true ↔ a = b := by simp [sameN]
theorem sameL_iff {a b : List Nd} : sameL a b = true ↔ a = b := by simp [sameL]
def qSame (f : Nat) : List D → Option D
  | [.agg ds, .agg es] => match decN ds, decN es with
    | some n, some m => if n.cnt < f then some (.bool (sameN n m)) else none
    | _, _ => none
  | _ => none
set_option maxHeartbeats 1000000 in
theorem equalF_step (f : Nat) (hf : f < 9223372036854775807) (hT : (Tab.zero.addQ 19 (qSame f)).ok Tryd.prog) (l r : List Nd) (hl : ∀ y ∈ l, y.cnt < f) : PCall Tryd.prog 45 [.sl (Nd.encs l), .sl (Nd.encs r), .func (.func 19) [] []] (.bool (sameL l r)) := by
  refine PCall.run hT st45n (by simp) fun E => ?_
  have hT_q : ∀ g args, (Tab.zero.addQ 19 (qSame f)).q g args = if g = 19 then qSame f args else Tab.zero.q g args := fun g args => rfl
  have hq : ∀ x y : Nd, x.cnt < f → qSame f [.agg x.enc, .agg y.enc] = some (.bool (sameN x y)) := fun x y hx => by simp only [qSame, decN_enc, hx, if_true]
  generalize Tab.zero.addQ 19 (qSame f) = TT at hT_q ⊢
  simp (config := {maxSteps := 1000000}) only [s45n, len_encs, hT_q, i_callNe, Int.natCast_nonneg, Nat.le_refl, Int.le_refl, List.take_succ_cons, List.take_zero, decide_true, decide_false, Bool.and_false, Bool.false_and, zz, zzN, zzF, zzD, zzM, cond_true, cond_false, ↓reduceIte, Nat.reduceEqDiff, Nat.reduceBEq, Int.reduceLT, Int.reduceLE, Int.reduceToNat, Int.reduceEq, Int.reduceAdd, Int.reduceSub, Int.reduceMul, Int.reduceNeg, Nat.reduceMul, Nat.reduceSub, Nat.reduceLeDiff, Nat.reduceLT, Int.reduceGT, Int.reduceGE, Int.reduceBEq, Int.reduceBNe, reduceCtorEq, Nat.reduceAdd]
  intro l1 l2
  by_cases cl : l.length = r.length
  · have g : ((l.length : Int) != (r.length : Int)) = false := by simp [cl]
    simp (config := {maxSteps := 1000000}) only [g, hT_q, i_callNe, Int.natCast_nonneg, Nat.le_refl, Int.le_refl, List.take_succ_cons, List.take_zero, decide_true, decide_false, Bool.and_false, Bool.false_and, zz, zzN, zzF, zzD, zzM, cond_true, cond_false, ↓reduceIte, Nat.reduceEqDiff, Nat.reduceBEq, Int.reduceLT, Int.reduceLE, Int.reduceToNat, Int.reduceEq, Int.reduceAdd, Int.reduceSub, Int.reduceMul, Int.reduceNeg, Nat.reduceMul, Nat.reduceSub, Nat.reduceLeDiff, Nat.reduceLT, Int.reduceGT, Int.reduceGE, Int.reduceBEq, Int.reduceBNe, reduceCtorEq, Nat.reduceAdd]
    intro _
    refine run_loop (X := Nat) (fun z => [(1, .sl (Nd.encs r)), (2, .func (.func 19) [] []), (15, .sl (Nd.encs l)), (16, .int .i64 l.length), (17, .int .i64 z)])
      (fun z => .emp) (fun z => l.length - z) (fun z => z ≤ l.length ∧ l.take z = r.take z) 0 ⟨Nat.zero_le _, rfl⟩ ?_ ?_ ?_
    · simp only [i_callNe, Int.natCast_nonneg, Nat.le_refl, Int.le_refl, List.take_succ_cons, List.take_zero, decide_true, decide_false, Bool.and_false, Bool.false_and, zz, zzN, zzF, zzD, zzM, cond_true, cond_false, ↓reduceIte, Nat.reduceEqDiff, Nat.reduceBEq, Int.reduceLT, Int.reduceLE, Int.reduceToNat, Int.reduceEq, Int.reduceAdd, Int.reduceSub, Int.reduceMul, Int.reduceNeg, Nat.reduceMul, Nat.reduceSub, Nat.reduceLeDiff, Nat.reduceLT, Int.reduceGT, Int.reduceGE, Int.reduceBEq, Int.reduceBNe, reduceCtorEq, Nat.reduceAdd]
    · exact AHeap.emp_sub _
    rintro i Q ⟨j0, j1⟩ hQ
    cases c : decide (i < l.length) with
    | false =>
      have e0 : i = l.length := by simp at c; omega
      have g : ((i : Int) < l.length) = False := eq_false (by omega)
      simp (config := {maxSteps := 1000000}) only [g, hT_q, i_callNe, Int.natCast_nonneg, Nat.le_refl, Int.le_refl, List.take_succ_cons, List.take_zero, decide_true, decide_false, Bool.and_false, Bool.false_and, zz, zzN, zzF, zzD, zzM, cond_true, cond_false, ↓reduceIte, Nat.reduceEqDiff, Nat.reduceBEq, Int.reduceLT, Int.reduceLE, Int.reduceToNat, Int.reduceEq, Int.reduceAdd, Int.reduceSub, Int.reduceMul, Int.reduceNeg, Nat.reduceMul, Nat.reduceSub, Nat.reduceLeDiff, Nat.reduceLT, Int.reduceGT, Int.reduceGE, Int.reduceBEq, Int.reduceBNe, reduceCtorEq, Nat.reduceAdd]
      have : sameL l r = true := by
        rw [e0, List.take_length, cl, List.take_length] at j1
        rw [sameL_iff]; exact j1
      rw [this]
      exact .inl rfl
    | true =>
      have c : i < l.length := by simpa using c
      obtain ⟨y, hy⟩ : ∃ y, l[i]? = some y := ⟨_, List.getElem?_eq_getElem c⟩
      obtain ⟨z, hz⟩ : ∃ z, r[i]? = some z := ⟨_, List.getElem?_eq_getElem (by omega)⟩
      have g : ((i : Int) < l.length) = True := eq_true (by omega)
      have hym : y ∈ l := List.mem_of_getElem? hy
      have wi : IntKind.i64.wrap ((i : Int) + 1) = ((i + 1 : Nat) : Int) := wrap_succ (by omega)
      have hp := part_enc y
      have hp2 := part_enc z
      have hac : ∀ (K : D → AHeap → Prop) (h : AHeap), askE 5 K h (Nd.encs l) (i : Int) = K (.eptr y.enc 0) h := fun K h => askE_encs hy
      have hac2 : ∀ (K : D → AHeap → Prop) (h : AHeap), askE 5 K h (Nd.encs r) (i : Int) = K (.eptr z.enc 0) h := fun K h => askE_encs hz
      have hqy := hq y z (hl y hym)
      have hsame : sameN y z = true → l.take (i + 1) = r.take (i + 1) := fun h => by rw [List.take_add_one, List.take_add_one, hy, hz, j1, sameN_iff.1 h]
      have hdiff : sameN y z = false → sameL l r = false := fun h => by
        cases e : sameL l r with
        | false => rfl
        | true =>
          rw [sameL_iff] at e
          subst e
          rw [hy] at hz
          cases hz
          rw [show sameN y y = true from sameN_iff.2 rfl] at h
          cases h
      generalize sameN y z = sm at *
      clear hym hy hz hq hp hp2
      have e1 : partD y.enc 0 (some 5) = some (.agg y.enc) := part_enc y
      have e2 : partD z.enc 0 (some 5) = some (.agg z.enc) := part_enc z
      obtain ⟨yk, yt, yx, ym, yl⟩ := y
      obtain ⟨zk, zt, zx, zm, zl⟩ := z
      rw [enc_mk] at *
      simp only [enc_mk] at hac2 e2 hqy
      cases sm with
      | false =>
        simp (config := {maxSteps := 1000000}) only [g, hac, hac2, e1, e2, wi, hqy, hT_q, hdiff, i_callNe, Int.natCast_nonneg, Nat.le_refl, Int.le_refl, List.take_succ_cons, List.take_zero, decide_true, decide_false, Bool.and_false, Bool.false_and, zz, zzN, zzF, zzD, zzM, cond_true, cond_false, ↓reduceIte, Nat.reduceEqDiff, Nat.reduceBEq, Int.reduceLT, Int.reduceLE, Int.reduceToNat, Int.reduceEq, Int.reduceAdd, Int.reduceSub, Int.reduceMul, Int.reduceNeg, Nat.reduceMul, Nat.reduceSub, Nat.reduceLeDiff, Nat.reduceLT, Int.reduceGT, Int.reduceGE, Int.reduceBEq, Int.reduceBNe, reduceCtorEq, Nat.reduceAdd]
        intro i8 i9 n1 n2
        simp (config := {maxSteps := 1000000}) only [n1, n2, hqy, hT_q, i_callNe, Int.natCast_nonneg, Nat.le_refl, Int.le_refl, List.take_succ_cons, List.take_zero, decide_true, decide_false, Bool.and_false, Bool.false_and, zz, zzN, zzF, zzD, zzM, cond_true, cond_false, ↓reduceIte, Nat.reduceEqDiff, Nat.reduceBEq, Int.reduceLT, Int.reduceLE, Int.reduceToNat, Int.reduceEq, Int.reduceAdd, Int.reduceSub, Int.reduceMul, Int.reduceNeg, Nat.reduceMul, Nat.reduceSub, Nat.reduceLeDiff, Nat.reduceLT, Int.reduceGT, Int.reduceGE, Int.reduceBEq, Int.reduceBNe, reduceCtorEq, Nat.reduceAdd]
      | true =>
        simp (config := {maxSteps := 1000000}) only [g, hac, hac2, e1, e2, wi, hqy, hT_q, i_callNe, Int.natCast_nonneg, Nat.le_refl, Int.le_refl, List.take_succ_cons, List.take_zero, decide_true, decide_false, Bool.and_false, Bool.false_and, zz, zzN, zzF, zzD, zzM, cond_true, cond_false, ↓reduceIte, Nat.reduceEqDiff, Nat.reduceBEq, Int.reduceLT, Int.reduceLE, Int.reduceToNat, Int.reduceEq, Int.reduceAdd, Int.reduceSub, Int.reduceMul, Int.reduceNeg, Nat.reduceMul, Nat.reduceSub, Nat.reduceLeDiff, Nat.reduceLT, Int.reduceGT, Int.reduceGE, Int.reduceBEq, Int.reduceBNe, reduceCtorEq, Nat.reduceAdd]
        intro i8 i9 n1 n2
        simp (config := {maxSteps := 1000000}) only [n1, n2, hqy, wi, hT_q, i_callNe, Int.natCast_nonneg, Nat.le_refl, Int.le_refl, List.take_succ_cons, List.take_zero, decide_true, decide_false, Bool.and_false, Bool.false_and, zz, zzN, zzF, zzD, zzM, cond_true, cond_false, ↓reduceIte, Nat.reduceEqDiff, Nat.reduceBEq, Int.reduceLT, Int.reduceLE, Int.reduceToNat, Int.reduceEq, Int.reduceAdd, Int.reduceSub, Int.reduceMul, Int.reduceNeg, Nat.reduceMul, Nat.reduceSub, Nat.reduceLeDiff, Nat.reduceLT, Int.reduceGT, Int.reduceGE, Int.reduceBEq, Int.reduceBNe, reduceCtorEq, Nat.reduceAdd]
        refine hQ (i + 1) _ _ ⟨c, hsame rfl⟩ (by simp only [i_callNe, Int.natCast_nonneg, Nat.le_refl, Int.le_refl, List.take_succ_cons, List.take_zero, decide_true, decide_false, Bool.and_false, Bool.false_and, zz, zzN, zzF, zzD, zzM, cond_true, cond_false, ↓reduceIte, Nat.reduceEqDiff, Nat.reduceBEq, Int.reduceLT, Int.reduceLE, Int.reduceToNat, Int.reduceEq, Int.reduceAdd, Int.reduceSub, Int.reduceMul, Int.reduceNeg, Nat.reduceMul, Nat.reduceSub, Nat.reduceLeDiff, Nat.reduceLT, Int.reduceGT, Int.reduceGE, Int.reduceBEq, Int.reduceBNe, reduceCtorEq, Nat.reduceAdd]) (AHeap.emp_sub _) (by omega)
  · have g : ((l.length : Int) != (r.length : Int)) = true := by simp; omega
    have : sameL l r = false := by
      cases e : sameL l r with
      | false => rfl
      | true => rw [sameL_iff] at e; subst e; exact absurd rfl cl
    simp (config := {maxSteps := 1000000}) only [g, this, hT_q, i_callNe, Int.natCast_nonneg, Nat.le_refl, Int.le_refl, List.take_succ_cons, List.take_zero, decide_true, decide_false, Bool.and_false, Bool.false_and, zz, zzN, zzF, zzD, zzM, cond_true, cond_false, ↓reduceIte, Nat.reduceEqDiff, Nat.reduceBEq, Int.reduceLT, Int.reduceLE, Int.reduceToNat, Int.reduceEq, Int.reduceAdd, Int.reduceSub, Int.reduceMul, Int.reduceNeg, Nat.reduceMul, Nat.reduceSub, Nat.reduceLeDiff, Nat.reduceLT, Int.reduceGT, Int.reduceGE, Int.reduceBEq, Int.reduceBNe, reduceCtorEq, Nat.reduceAdd]
def qEqF (f : Nat) : List D → Option D
  | [.sl ds, .sl es, .func (.func 19) [] []] => match decNs ds, decNs es with
    | some l, some m => if (∀ y ∈ l, y.cnt < f) then some (.bool (sameL l m)) else none
    | _, _ => none
  | _ => none
set_option maxHeartbeats 1000000 in
theorem same_step (f : Nat) (hT : ((Tab.zero.addQ 19 (qSame f)).addQ 45 (qEqF f)).ok Tryd.prog) (x y : Nd) (hx : x.cnt < f + 1) : PCall Tryd.prog 19 [.agg x.enc, .agg y.enc] (.bool (sameN x y)) := by
  refine PCall.run hT st19n (by simp) fun E => ?_
  have hT_q : ∀ g args, ((Tab.zero.addQ 19 (qSame f)).addQ 45 (qEqF f)).q g args = if g = 45 then qEqF f args else (Tab.zero.addQ 19 (qSame f)).q g args := fun g args => rfl
  have hq : ∀ x y : List Nd, (∀ y ∈ x, y.cnt < f) → qEqF f [.sl (Nd.encs x), .sl (Nd.encs y), .func (.func 19) [] []] = some (.bool (sameL x y)) := fun x y hx => by simp only [qEqF, decNs_enc]; rw [if_pos hx]
  generalize (Tab.zero.addQ 19 (qSame f)).addQ 45 (qEqF f) = TT at hT_q ⊢
  obtain ⟨yk, yt, yx, ym, yl⟩ := x
  obtain ⟨zk, zt, zx, zm, zl⟩ := y
  have hcnt : ∀ y ∈ yl, y.cnt < f := fun y hy => by have := cnt_kid (k := yk) (t := yt) (s := yx) (n := ym) hy; omega
  have hqy := hq yl zl hcnt
  have hs : sameN (.mk yk yt yx ym yl) (.mk zk zt zx zm zl) = ((yk == zk) && ((yt == zt) && ((yx == zx) && ((ym == zm) && sameL yl zl)))) := by
    rw [Bool.eq_iff_iff, sameN_iff]
    simp only [Bool.and_eq_true, beq_iff_eq, sameL_iff, Nd.mk.injEq]
  rw [enc_mk, enc_mk, hs]
  generalize sameL yl zl = sl at *
  have run : ∀ c1n c2n c3n c4n : Bool, (yk == zk) = c1n → (yt == zt) = c2n → (yx == zx) = c3n → (ym == zm) = c4n → vc TT s19n (todo TT (retK [.tmp 4] fun o _ => o = .ret (.bool (c1n && (c2n && (c3n && (c4n && sl)))))) E []) E (argFr [.agg [.int .i64 yk, .int .i64 yt, .str yx, .int .i64 ym, .sl (Nd.encs yl)], .agg [.int .i64 zk, .int .i64 zt, .str zx, .int .i64 zm, .sl (Nd.encs zl)]]) .emp := by
    intro c1n c2n c3n c4n e1 e2 e3 e4
    simp (config := {maxSteps := 1000000}) only [s19n, hT_q, i_callNe, Int.natCast_nonneg, Nat.le_refl, Int.le_refl, List.take_succ_cons, List.take_zero, decide_true, decide_false, Bool.and_false, Bool.false_and, zz, zzN, zzF, zzD, zzM, cond_true, cond_false, ↓reduceIte, Nat.reduceEqDiff, Nat.reduceBEq, Int.reduceLT, Int.reduceLE, Int.reduceToNat, Int.reduceEq, Int.reduceAdd, Int.reduceSub, Int.reduceMul, Int.reduceNeg, Nat.reduceMul, Nat.reduceSub, Nat.reduceLeDiff, Nat.reduceLT, Int.reduceGT, Int.reduceGE, Int.reduceBEq, Int.reduceBNe, reduceCtorEq, Nat.reduceAdd]
    intro i2 i3 n1 n2
    cases c1n with
    | false => simp (config := {maxSteps := 1000000}) only [n1, n2, e1, hT_q, i_callNe, Int.natCast_nonneg, Nat.le_refl, Int.le_refl, List.take_succ_cons, List.take_zero, decide_true, decide_false, Bool.and_false, Bool.false_and, zz, zzN, zzF, zzD, zzM, cond_true, cond_false, ↓reduceIte, Nat.reduceEqDiff, Nat.reduceBEq, Int.reduceLT, Int.reduceLE, Int.reduceToNat, Int.reduceEq, Int.reduceAdd, Int.reduceSub, Int.reduceMul, Int.reduceNeg, Nat.reduceMul, Nat.reduceSub, Nat.reduceLeDiff, Nat.reduceLT, Int.reduceGT, Int.reduceGE, Int.reduceBEq, Int.reduceBNe, reduceCtorEq, Nat.reduceAdd]
    | true =>
      cases c2n with
      | false => simp (config := {maxSteps := 1000000}) only [n1, n2, e1, e2, hT_q, i_callNe, Int.natCast_nonneg, Nat.le_refl, Int.le_refl, List.take_succ_cons, List.take_zero, decide_true, decide_false, Bool.and_false, Bool.false_and, zz, zzN, zzF, zzD, zzM, cond_true, cond_false, ↓reduceIte, Nat.reduceEqDiff, Nat.reduceBEq, Int.reduceLT, Int.reduceLE, Int.reduceToNat, Int.reduceEq, Int.reduceAdd, Int.reduceSub, Int.reduceMul, Int.reduceNeg, Nat.reduceMul, Nat.reduceSub, Nat.reduceLeDiff, Nat.reduceLT, Int.reduceGT, Int.reduceGE, Int.reduceBEq, Int.reduceBNe, reduceCtorEq, Nat.reduceAdd]
      | true =>
        cases c3n with
        | false => simp (config := {maxSteps := 1000000}) only [n1, n2, e1, e2, e3, hT_q, i_callNe, Int.natCast_nonneg, Nat.le_refl, Int.le_refl, List.take_succ_cons, List.take_zero, decide_true, decide_false, Bool.and_false, Bool.false_and, zz, zzN, zzF, zzD, zzM, cond_true, cond_false, ↓reduceIte, Nat.reduceEqDiff, Nat.reduceBEq, Int.reduceLT, Int.reduceLE, Int.reduceToNat, Int.reduceEq, Int.reduceAdd, Int.reduceSub, Int.reduceMul, Int.reduceNeg, Nat.reduceMul, Nat.reduceSub, Nat.reduceLeDiff, Nat.reduceLT, Int.reduceGT, Int.reduceGE, Int.reduceBEq, Int.reduceBNe, reduceCtorEq, Nat.reduceAdd]
        | true =>
          cases c4n with
          | false => simp (config := {maxSteps := 1000000}) only [n1, n2, e1, e2, e3, e4, hT_q, i_callNe, Int.natCast_nonneg, Nat.le_refl, Int.le_refl, List.take_succ_cons, List.take_zero, decide_true, decide_false, Bool.and_false, Bool.false_and, zz, zzN, zzF, zzD, zzM, cond_true, cond_false, ↓reduceIte, Nat.reduceEqDiff, Nat.reduceBEq, Int.reduceLT, Int.reduceLE, Int.reduceToNat, Int.reduceEq, Int.reduceAdd, Int.reduceSub, Int.reduceMul, Int.reduceNeg, Nat.reduceMul, Nat.reduceSub, Nat.reduceLeDiff, Nat.reduceLT, Int.reduceGT, Int.reduceGE, Int.reduceBEq, Int.reduceBNe, reduceCtorEq, Nat.reduceAdd]
          | true => simp (config := {maxSteps := 1000000}) only [n1, n2, e1, e2, e3, e4, hqy, Bool.true_and, hT_q, i_callNe, Int.natCast_nonneg, Nat.le_refl, Int.le_refl, List.take_succ_cons, List.take_zero, decide_true, decide_false, Bool.and_false, Bool.false_and, zz, zzN, zzF, zzD, zzM, cond_true, cond_false, ↓reduceIte, Nat.reduceEqDiff, Nat.reduceBEq, Int.reduceLT, Int.reduceLE, Int.reduceToNat, Int.reduceEq, Int.reduceAdd, Int.reduceSub, Int.reduceMul, Int.reduceNeg, Nat.reduceMul, Nat.reduceSub, Nat.reduceLeDiff, Nat.reduceLT, Int.reduceGT, Int.reduceGE, Int.reduceBEq, Int.reduceBNe, reduceCtorEq, Nat.reduceAdd]
  exact run _ _ _ _ rfl rfl rfl rfl
theorem qSame_ok {f : Nat} (hP : ∀ x y : Nd, x.cnt < f → PCall Tryd.prog 19 [.agg x.enc, .agg y.enc] (.bool (sameN x y))) (args : List D) (d : D) (h : qSame f args = some d) : PCall Tryd.prog 19 args d := by
  unfold qSame at h
  split at h
  · split at h
    · rename_i e1 e2
      split at h
      · cases h
        rw [decN_some e1, decN_some e2]
        exact hP _ _ (by assumption)
      · cases h
    · cases h
  · cases h
theorem qEqF_ok {f : Nat} (hP : ∀ l r : List Nd, (∀ y ∈ l, y.cnt < f) → PCall Tryd.prog 45 [.sl (Nd.encs l), .sl (Nd.encs r), .func (.func 19) [] []] (.bool (sameL l r))) (args : List D) (d : D) (h : qEqF f args = some d) : PCall Tryd.prog 45 args d := by
  unfold qEqF at h
  split at h
  · split at h
    · rename_i e1 e2
      split at h
      · cases h
        rw [decNs_some e1, decNs_some e2]
        exact hP _ _ (by assumption)
      · cases h
    · cases h
  · cases h
theorem tbS_ok : ∀ f, f ≤ 9223372036854775807 → (Tab.zero.addQ 19 (qSame f)).ok Tryd.prog
  | 0, _ => Tab.addQ_ok (Tab.zero_ok _) (qSame_ok fun x y h => by omega)
  | f + 1, hf => Tab.addQ_ok (Tab.zero_ok _) (qSame_ok fun x y h => same_step f (Tab.addQ_ok (tbS_ok f (by omega)) (qEqF_ok fun l r hl => equalF_step f (by omega) (tbS_ok f (by omega)) l r hl)) x y h)
theorem same_c (x y : Nd) (h : x.cnt < 9223372036854775807) : PCall Tryd.prog 19 [.agg x.enc, .agg y.enc] (.bool (sameN x y)) :=
  same_step x.cnt (Tab.addQ_ok (tbS_ok _ (by omega)) (qEqF_ok fun l r hl => equalF_step _ h (tbS_ok _ (by omega)) l r hl)) x y (by omega)
def q19n : List D → Option D := qSame 9223372036854775807
theorem q19n_ok (args : List D) (d : D) (h : q19n args = some d) : PCall Tryd.prog 19 args d := qSame_ok (fun x y h => same_c x y h) args d h
def tb19n : Tab := tb14n.addQ 19 q19n
theorem tb19n_q (g : FuncId) (args : List D) : tb19n.q g args = if g = 19 then q19n args else tb14n.q g args := rfl
theorem tb19n_a : tb19n.a = tb14n.a := rfl
theorem tb19n_c : tb19n.c = tb14n.c := rfl
theorem tb19n_ok : tb19n.ok Tryd.prog := Tab.addQ_ok tb14n_ok q19n_ok
theorem tb19n_e : type_of% (And.intro (And.intro @tb19n_q (And.intro @tb19n_a @tb19n_c)) @tb14n_e) := (And.intro (And.intro @tb19n_q (And.intro @tb19n_a @tb19n_c)) @tb14n_e)

end
end Go.Proofs.YthpgepillaeldaaDoor.Zz
