/- Contracts: the turn of the sponge. -/
import Derived.Test.YtiilnakenlegmaaZK2
namespace Go.Proofs.Ytiilnakenlegmaa.Zz
set_option linter.unusedVariables false
set_option linter.unusedSimpArgs false
set_option maxRecDepth 20000
def p9 : Plan := ⟨⟨[], [(4, 0)], [], [], [], []⟩, [(9, [0, 1, 2, 3, 4, 6, 7, 8, 9, 5, 10, 11, 12]), (18, [0, 1, 2, 3, 4, 5, 6, 7, 8, 9, 10, 11, 12, 13, 14, 15, 16, 17, 18, 19, 20])]⟩
/-- cupel/sha.Turn (1 parameters, 0 captured) -/
def s9 : Stm :=
  .seq (.ops [⟨.box (.t 0), (some 1), none, false⟩,
     ⟨.alloc [(.int .u64 0), (.int .u64 0), (.int .u64 0), (.int .u64 0), (.int .u64 0), (.int .u64 0), (.int .u64 0), (.int .u64 0), (.int .u64 0), (.int .u64 0), (.int .u64 0), (.int .u64 0), (.int .u64 0), (.int .u64 0), (.int .u64 0), (.int .u64 0), (.int .u64 0), (.int .u64 0), (.int .u64 0), (.int .u64 0), (.int .u64 0), (.int .u64 0), (.int .u64 0), (.int .u64 0), (.int .u64 0)], (some 2), none, false⟩])
  (.seq (.seq (.ops [⟨.qcall (.f 22) [], (some 11), none, false⟩,
      ⟨.mov (.c (.int .i64 0)), (some 12), none, true⟩])
   (.block 0 (.loop (.seq (.ops [⟨.bin .lss (.t 12) (.c (.int .i64 24)), (some 13), none, true⟩])
     (.seq (.cond (.t 13)
       (.skip)
       (.exit 0))
     (.seq (.block 1 (.seq (.ops [⟨.indexA 24 1 none (.t 11) (.t 12), (some 14), none, true⟩,
          ⟨.mov (.t 14), (some 4), none, true⟩])
       (.seq (.ops [⟨.call (.f 23) [(.t 1)], (some 15), none, false⟩])
       (.seq (.ops [⟨.indexAddrA 25 1 (.t 1) (.c (.int .i64 1)), (some 16), none, true⟩,
          ⟨.load none (.t 16), (some 17), none, false⟩,
          ⟨.mov (.t 17), (some 5), none, true⟩])
       (.seq (.seq (.ops [⟨.qcall (.f 24) [], (some 18), none, false⟩,
           ⟨.mov (.c (.int .i64 0)), (some 19), none, true⟩])
        (.block 2 (.loop (.seq (.ops [⟨.bin .lss (.t 19) (.c (.int .i64 24)), (some 20), none, true⟩])
          (.seq (.cond (.t 20)
            (.skip)
            (.exit 2))
          (.seq (.block 3 (.seq (.ops [⟨.indexA 24 2 (some 2) (.t 18) (.t 19), (some 21), none, true⟩,
               ⟨.alloc [(.int .i64 0), (.int .i64 0)], (some 7), none, false⟩,
               ⟨.store 2 (.t 7) (.t 21), none, none, false⟩])
            (.ops [⟨.indexAddrA 2 1 (.t 7) (.c (.int .i64 1)), (some 22), none, true⟩,
              ⟨.load none (.t 22), (some 23), none, false⟩,
              ⟨.mov (.t 5), (some 24), none, true⟩,
              ⟨.indexAddrA 2 1 (.t 7) (.c (.int .i64 0)), (some 25), none, true⟩,
              ⟨.load none (.t 25), (some 26), none, false⟩,
              ⟨.indexAddrA 2 1 (.t 7) (.c (.int .i64 1)), (some 28), none, true⟩,
              ⟨.load none (.t 28), (some 29), none, false⟩,
              ⟨.indexAddrA 25 1 (.t 1) (.t 29), (some 30), none, true⟩,
              ⟨.load none (.t 30), (some 31), none, false⟩,
              ⟨.qcall (.f 25) [(.t 24), (.t 26)], (some 27), none, false⟩,
              ⟨.indexAddrA 25 1 (.t 1) (.t 23), (some 32), none, true⟩,
              ⟨.store 1 (.t 32) (.t 27), none, none, false⟩,
              ⟨.mov (.t 31), (some 5), none, true⟩])))
          (.ops [⟨.bin .add (.t 19) (.c (.int .i64 1)), (some 33), none, true⟩,
            ⟨.mov (.t 33), (some 19), none, true⟩])))))))
       (.seq (.seq (.ops [⟨.mov (.c (.int .i64 0)), (some 8), none, true⟩])
        (.block 4 (.loop (.seq (.seq (.ops [⟨.mov (.t 8), (some 34), none, true⟩,
              ⟨.bin .lss (.t 34) (.c (.int .i64 25)), (some 35), none, true⟩])
           (.cond (.t 35)
            (.skip)
            (.exit 4)))
          (.seq (.block 5 (.seq (.ops [⟨.mov (.t 8), (some 38), none, true⟩,
               ⟨.mov (.t 8), (some 39), none, true⟩,
               ⟨.bin .add (.t 39) (.c (.int .i64 5)), (some 40), none, true⟩,
               ⟨.slice (.arr 25) (.t 1) (some (.t 38)) (some (.t 40)) none, (some 41), none, false⟩,
               ⟨.arrPtr 5 (.t 41), (some 42), none, true⟩,
               ⟨.load (some 5) (.t 42), (some 43), none, false⟩,
               ⟨.alloc [(.int .u64 0), (.int .u64 0), (.int .u64 0), (.int .u64 0), (.int .u64 0)], (some 9), none, false⟩,
               ⟨.store 5 (.t 9) (.t 43), none, none, false⟩])
            (.seq (.ops [⟨.mov (.c (.int .i64 0)), (some 44), none, true⟩])
            (.block 6 (.loop (.seq (.ops [⟨.bin .lss (.t 44) (.c (.int .i64 5)), (some 45), none, true⟩])
              (.seq (.cond (.t 45)
                (.skip)
                (.exit 6))
              (.seq (.block 7 (.seq (.ops [⟨.mov (.t 44), (some 46), none, true⟩,
                   ⟨.mov (.t 46), (some 10), none, true⟩])
                (.ops [⟨.mov (.t 8), (some 47), none, true⟩,
                  ⟨.mov (.t 10), (some 48), none, true⟩,
                  ⟨.bin .add (.t 47) (.t 48), (some 49), none, true⟩,
                  ⟨.mov (.t 10), (some 50), none, true⟩,
                  ⟨.indexAddrA 5 1 (.t 9) (.t 50), (some 51), none, true⟩,
                  ⟨.load none (.t 51), (some 52), none, false⟩,
                  ⟨.mov (.t 10), (some 53), none, true⟩,
                  ⟨.bin .add (.t 53) (.c (.int .i64 1)), (some 54), none, true⟩,
                  ⟨.bin .rem (.t 54) (.c (.int .i64 5)), (some 55), none, true⟩,
                  ⟨.indexAddrA 5 1 (.t 9) (.t 55), (some 56), none, true⟩,
                  ⟨.load none (.t 56), (some 57), none, false⟩,
                  ⟨.un .xor (.t 57), (some 58), none, true⟩,
                  ⟨.mov (.t 10), (some 59), none, true⟩,
                  ⟨.bin .add (.t 59) (.c (.int .i64 2)), (some 60), none, true⟩,
                  ⟨.bin .rem (.t 60) (.c (.int .i64 5)), (some 61), none, true⟩,
                  ⟨.indexAddrA 5 1 (.t 9) (.t 61), (some 62), none, true⟩,
                  ⟨.load none (.t 62), (some 63), none, false⟩,
                  ⟨.bin .and (.t 58) (.t 63), (some 64), none, true⟩,
                  ⟨.bin .xor (.t 52) (.t 64), (some 65), none, true⟩,
                  ⟨.indexAddrA 25 1 (.t 1) (.t 49), (some 66), none, true⟩,
                  ⟨.store 1 (.t 66) (.t 65), none, none, false⟩])))
              (.ops [⟨.bin .add (.t 44) (.c (.int .i64 1)), (some 67), none, true⟩,
                ⟨.mov (.t 67), (some 44), none, true⟩])))))))))
          (.ops [⟨.mov (.t 8), (some 36), none, true⟩,
            ⟨.bin .add (.t 36) (.c (.int .i64 5)), (some 37), none, true⟩,
            ⟨.mov (.t 37), (some 8), none, true⟩]))))))
       (.ops [⟨.indexAddrA 25 1 (.t 1) (.c (.int .i64 0)), (some 68), none, true⟩,
         ⟨.load none (.t 68), (some 69), none, false⟩,
         ⟨.mov (.t 4), (some 70), none, true⟩,
         ⟨.bin .xor (.t 69) (.t 70), (some 71), none, true⟩,
         ⟨.indexAddrA 25 1 (.t 1) (.c (.int .i64 0)), (some 72), none, true⟩,
         ⟨.store 1 (.t 72) (.t 71), none, none, false⟩])))))))
     (.ops [⟨.bin .add (.t 12) (.c (.int .i64 1)), (some 73), none, true⟩,
       ⟨.mov (.t 73), (some 12), none, true⟩])))))))
  (.seq (.ops [⟨.load (some 25) (.t 1), (some 74), none, false⟩,
     ⟨.store 25 (.t 2) (.t 74), none, none, false⟩])
  (.ret)))
theorem st9 : stmOf Try.prog 9 p9 = some (s9, [.cell 2 (some 25)], 75) := by kernel_rfl

/-- What the mixing of columns asks and does. -/
def cCols (args : List D) (h : AHeap) (K : D → AHeap → Prop) : Prop :=
  ∃ id a, args = [.ptr id 1 0] ∧ h.f id = some (.cells (encW a)) ∧ a.length = 25 ∧ K (.tuple []) (h.set id (.cells (encW (colF a))))
theorem cCols_mono (args : List D) (h : AHeap) (K K' : D → AHeap → Prop) (hk : ∀ d h, K d h → K' d h) (c : cCols args h K) : cCols args h K' := by
  obtain ⟨id, a, e, hid, ha, k⟩ := c
  exact ⟨id, a, e, hid, ha, hk _ _ k⟩
theorem cCols_ok (args : List D) (h : AHeap) (K : D → AHeap → Prop) (c : cCols args h K) : ACalls Try.prog 23 args h fun o h' => ∃ d, o = .ret d ∧ K d h' := by
  obtain ⟨id, a, rfl, hid, ha, k⟩ := c
  refine (columns_c h id a hid ha).mono fun o h' hh => ?_
  obtain ⟨d, e1, e2, e3⟩ := hh
  exact ⟨d, e1, by rw [e2, e3]; exact k⟩
def tb23 : Tab := tb25.addW 23 cCols cCols_mono
theorem tb23_q : tb23.q = tb25.q := rfl
theorem tb23_a : tb23.a = tb25.a := rfl
theorem tb23_c (g : FuncId) (args : List D) (h : AHeap) (K E : D → AHeap → Prop) : tb23.c g args h K E = if g = 23 then cCols args h K else tb25.c g args h K E := rfl
theorem tb23_ok : tb23.ok Try.prog := Tab.addW_ok tb25_ok cCols_ok
theorem tb23_e : type_of% (And.intro (And.intro @tb23_q (And.intro @tb23_a @tb23_c)) @tb25_e) := (And.intro (And.intro @tb23_q (And.intro @tb23_a @tb23_c)) @tb25_e)

/-- One place: what is there goes on, turned. -/
def rpS (s : List W64 × W64) (k : Nat) : List W64 × W64 := (s.1.set (shW.getD k (0, 0)).2 (rotL s.2 (shW.getD k (0, 0)).1), s.1.getD (shW.getD k (0, 0)).2 0)
def rpF (a : List W64) (k : Nat) : List W64 × W64 := (List.range k).foldl rpS (a, a.getD 1 0)
def chiS (row : List W64) (i : Nat) (b : List W64) (x : Nat) : List W64 := b.set (i + x) (row.getD x 0 ^^^ (~~~ row.getD ((x + 1) % 5) 0 &&& row.getD ((x + 2) % 5) 0))
def chiR (row : List W64) (i : Nat) (b : List W64) (x : Nat) : List W64 := (List.range x).foldl (chiS row i) b
def chiJ (b : List W64) (j : Nat) : List W64 := chiR ((b.drop (5 * j)).take 5) (5 * j) b 5
def chiF (a : List W64) (k : Nat) : List W64 := (List.range k).foldl chiJ a
def iotaF (b : List W64) (r : Nat) : List W64 := b.set 0 (b.getD 0 0 ^^^ rcW.getD r 0)
def roundF (a : List W64) (r : Nat) : List W64 := iotaF (chiF (rpF (colF a) 24).1 5) r
def turnF (a : List W64) (k : Nat) : List W64 := (List.range k).foldl roundF a
theorem len_foldl {α : Type} (f : List W64 → α → List W64) (hf : ∀ a x, (f a x).length = a.length) : ∀ (l : List α) (a : List W64), (l.foldl f a).length = a.length
  | [], _ => rfl
  | x :: l, a => by rw [List.foldl_cons, len_foldl f hf l, hf]
theorem len_rpF (a : List W64) : ∀ k, (rpF a k).1.length = a.length
  | 0 => rfl
  | k + 1 => by unfold rpF; rw [fold_succ]; unfold rpS; rw [List.length_set]; exact len_rpF a k
theorem len_chiR (row : List W64) (i : Nat) (b : List W64) (x : Nat) : (chiR row i b x).length = b.length := len_foldl _ (fun _ _ => by simp [chiS]) _ _
theorem len_chiF (a : List W64) (k : Nat) : (chiF a k).length = a.length := len_foldl _ (fun _ _ => by simp [chiJ, len_chiR]) _ _
theorem len_colF (a : List W64) : (colF a).length = a.length := len_colA _ _ _
theorem len_roundF (a : List W64) (r : Nat) : (roundF a r).length = a.length := by simp [roundF, iotaF, len_chiF, len_rpF, len_colF]
theorem len_turnF (a : List W64) (k : Nat) : (turnF a k).length = a.length := len_foldl _ len_roundF _ _
theorem takeW {l : List W64} {n : Nat} (h : l.length = n) : (encW l).take n = encW l := List.take_of_length_le (by simp [encW, h])
theorem setAt_pre : ∀ (m p l : List D), m.length = l.length → setAt (p ++ l) p.length m = p ++ m
  | [], p, [], _ => rfl
  | d :: m, p, x :: l, h => by
    have e : (p ++ x :: l).set p.length d = (p ++ [d]) ++ l := by simp
    have := setAt_pre m (p ++ [d]) l (by simpa using h)
    unfold setAt
    rw [e]
    simpa using this
theorem setAt_all {l m : List D} (h : m.length = l.length) : setAt l 0 m = m := by
  simpa using setAt_pre m [] l h
theorem encP_at : ∀ (l : List (Nat × Nat)) (k : Nat), k < l.length → ((encP l).drop (k * 2)).take 2 = [.int .i64 (l.getD k (0, 0)).1, .int .i64 (l.getD k (0, 0)).2]
  | p :: l, 0, _ => by simp [encP]
  | p :: l, k + 1, h => by
    have e : (k + 1) * 2 = k * 2 + 1 + 1 := by omega
    have := encP_at l k (by simpa using h)
    rw [e]
    show ((encP l).drop (k * 2)).take 2 = _
    rw [this]; rfl
theorem encP_get (k : Nat) (h : k < 24) : ((encP shW).drop (k * 2)).take 2 = [.int .i64 (shW.getD k (0, 0)).1, .int .i64 (shW.getD k (0, 0)).2] := encP_at shW k h
theorem len_shP : (encP shW).length = 48 := by simp [encP, shW]
theorem rpF_succ (a : List W64) (k : Nat) : rpF a (k + 1) = rpS (rpF a k) k := by unfold rpF; exact fold_succ _ _ _
theorem turnF_succ (a : List W64) (k : Nat) : turnF a (k + 1) = roundF (turnF a k) k := by unfold turnF; exact fold_succ _ _ _
theorem chiF_succ (a : List W64) (k : Nat) : chiF a (k + 1) = chiJ (chiF a k) k := by unfold chiF; exact fold_succ _ _ _
theorem v_arrPtr5 {id off : Nat} : valP (.arrPtr 5 (.csl id off 5)) = some (.ptr id 1 off) := rfl
theorem chiF_zero (a : List W64) : chiF a 0 = a := rfl
theorem chiR_succ (row : List W64) (i : Nat) (b : List W64) (x : Nat) : chiR row i b (x + 1) = chiS row i (chiR row i b x) x := by unfold chiR; exact fold_succ _ _ _
theorem chiR_zero (row : List W64) (i : Nat) (b : List W64) : chiR row i b 0 = b := rfl
theorem rpF_zero (a : List W64) : rpF a 0 = (a, a.getD 1 0) := rfl
theorem shW_lt : ∀ k : Fin 24, (shW.getD k.1 (0, 0)).1 < 64 ∧ (shW.getD k.1 (0, 0)).2 < 25 := by decide
set_option maxHeartbeats 4000000 in
theorem turn_c (a : List W64) (ha : a.length = 25) : PCall Try.prog 9 [.agg (encW a)] (.agg (encW (turnF a 24))) := by
  refine PCall.run tb23_ok st9 (by simp) fun E => ?_
  have cW : ∀ l : List W64, (encW l).all cellOk = true := fun l => by simp [encW, cellOk]
  simp (config := {maxSteps := 1000000}) only [s9, q22, q24, cW, tb23_e, Int.natCast_nonneg, Nat.le_refl, Int.le_refl, List.take_succ_cons, List.take_zero, decide_true, decide_false, Bool.and_false, Bool.false_and, zz, zzN, zzF, fltEv, isArithF, ↓reduceIte, Nat.reduceEqDiff, Nat.reduceBEq, Int.reduceLT, Int.reduceLE, Int.reduceToNat, Int.reduceEq, Int.reduceAdd, Int.reduceSub, Int.reduceMul, Int.reduceNeg, Nat.reduceMul, Nat.reduceSub, Nat.reduceLeDiff, Nat.reduceLT, Int.reduceGT, Int.reduceBEq, Int.reduceBNe, reduceCtorEq, Nat.reduceAdd, Ins.map, Fr.ev, argFr, argE, binEv, intEv, shEv, strEv, unEv, Fr.mark, evRes, tup, lenD, lookupD, loadD, partD, storeD, cellsD, cellOk, setAt, objNe, objSame, eqEv, readEv, buildD, buildRows, rowsOf, elemsOf]
  intro b c n1 n2
  refine run_loop (X := Nat) (fun r => [(1, .ptr b 1 0), (2, .ptr c 1 0), (11, .agg (encW rcW)), (12, .int .i64 r)]) (fun r => (AHeap.emp.set b (.cells (encW (turnF a r)))).set c (.cells (List.replicate 25 (.int .u64 0)))) (fun r => 24 - r) (fun r => r ≤ 24) 0 (by simp) ?_ ?_ ?_
  · simp only [Int.natCast_nonneg, Nat.le_refl, Int.le_refl, List.take_succ_cons, List.take_zero, decide_true, decide_false, Bool.and_false, Bool.false_and, zz, zzN, zzF, fltEv, isArithF, ↓reduceIte, Nat.reduceEqDiff, Nat.reduceBEq, Int.reduceLT, Int.reduceLE, Int.reduceToNat, Int.reduceEq, Int.reduceAdd, Int.reduceSub, Int.reduceMul, Int.reduceNeg, Nat.reduceMul, Nat.reduceSub, Nat.reduceLeDiff, Nat.reduceLT, Int.reduceGT, Int.reduceBEq, Int.reduceBNe, reduceCtorEq, Nat.reduceAdd, Ins.map, Fr.ev, argFr, argE, binEv, intEv, shEv, strEv, unEv, Fr.mark, evRes, tup, lenD, lookupD, loadD, partD, storeD, cellsD, cellOk, setAt, objNe, objSame, eqEv, readEv, buildD, buildRows, rowsOf, elemsOf]
  · exact AHeap.sub_refl _
  intro r Q hr hQ
  have lt : (turnF a r).length = 25 := by rw [len_turnF, ha]
  by_cases c1 : r < 24
  · have g1 : ((r : Int) < 24) = True := by simp; omega
    have wi : IntKind.i64.wrap ((r : Int) + 1) = ((r + 1 : Nat) : Int) := wrap_succ (by omega)
    have gr := encW_get (l := rcW) (i := r) (by simp [rcW]; omega)
    have g25 := encW_get (l := colF (turnF a r)) (i := 1) (by rw [len_colF]; omega)
    have p1 : (0 + r * 1) = r := by omega
    have lr : (encW rcW).length = 24 := by simp [encW, rcW]
    simp (config := {maxSteps := 1000000}) only [g1, n1, n2, wi, gr, lr, p1, Nat.mul_one, cW, q22, q24, tb23_e, Int.natCast_nonneg, Nat.le_refl, Int.le_refl, List.take_succ_cons, List.take_zero, decide_true, decide_false, Bool.and_false, Bool.false_and, zz, zzN, zzF, fltEv, isArithF, ↓reduceIte, Nat.reduceEqDiff, Nat.reduceBEq, Int.reduceLT, Int.reduceLE, Int.reduceToNat, Int.reduceEq, Int.reduceAdd, Int.reduceSub, Int.reduceMul, Int.reduceNeg, Nat.reduceMul, Nat.reduceSub, Nat.reduceLeDiff, Nat.reduceLT, Int.reduceGT, Int.reduceBEq, Int.reduceBNe, reduceCtorEq, Nat.reduceAdd, Ins.map, Fr.ev, argFr, argE, binEv, intEv, shEv, strEv, unEv, Fr.mark, evRes, tup, lenD, lookupD, loadD, partD, storeD, cellsD, cellOk, setAt, objNe, objSame, eqEv, readEv, buildD, buildRows, rowsOf, elemsOf]
    refine ⟨b, _, rfl, by simp [n1, n2], lt, ?_⟩
    simp (config := {maxSteps := 1000000}) only [g1, n1, n2, wi, gr, lr, p1, Nat.mul_one, g25, cW, len_encW, len_colF, lt, q22, q24, tb23_e, Int.natCast_nonneg, Nat.le_refl, Int.le_refl, List.take_succ_cons, List.take_zero, decide_true, decide_false, Bool.and_false, Bool.false_and, zz, zzN, zzF, fltEv, isArithF, ↓reduceIte, Nat.reduceEqDiff, Nat.reduceBEq, Int.reduceLT, Int.reduceLE, Int.reduceToNat, Int.reduceEq, Int.reduceAdd, Int.reduceSub, Int.reduceMul, Int.reduceNeg, Nat.reduceMul, Nat.reduceSub, Nat.reduceLeDiff, Nat.reduceLT, Int.reduceGT, Int.reduceBEq, Int.reduceBNe, reduceCtorEq, Nat.reduceAdd, Ins.map, Fr.ev, argFr, argE, binEv, intEv, shEv, strEv, unEv, Fr.mark, evRes, tup, lenD, lookupD, loadD, partD, storeD, cellsD, cellOk, setAt, objNe, objSame, eqEv, readEv, buildD, buildRows, rowsOf, elemsOf]
    have f0 := turnF_succ a r
    have lA : (colF (turnF a r)).length = 25 := by rw [len_colF, lt]
    unfold roundF at f0
    generalize turnF a r = A0 at *
    generalize colF A0 = A at *
    refine run_loop (X := Nat) (fun k => [(1, .ptr b 1 0), (2, .ptr c 1 0), (4, .int .u64 (ofW (rcW.getD r 0))), (5, .int .u64 (ofW (rpF A k).2)), (11, .agg (encW rcW)), (12, .int .i64 r), (18, .agg (encP shW)), (19, .int .i64 k)]) (fun k => (AHeap.emp.set b (.cells (encW (rpF A k).1))).set c (.cells (List.replicate 25 (.int .u64 0)))) (fun k => 24 - k) (fun k => k ≤ 24) 0 (by simp) ?_ ?_ ?_
    · simp only [rpF_zero, Int.natCast_nonneg, Nat.le_refl, Int.le_refl, List.take_succ_cons, List.take_zero, decide_true, decide_false, Bool.and_false, Bool.false_and, zz, zzN, zzF, fltEv, isArithF, ↓reduceIte, Nat.reduceEqDiff, Nat.reduceBEq, Int.reduceLT, Int.reduceLE, Int.reduceToNat, Int.reduceEq, Int.reduceAdd, Int.reduceSub, Int.reduceMul, Int.reduceNeg, Nat.reduceMul, Nat.reduceSub, Nat.reduceLeDiff, Nat.reduceLT, Int.reduceGT, Int.reduceBEq, Int.reduceBNe, reduceCtorEq, Nat.reduceAdd, Ins.map, Fr.ev, argFr, argE, binEv, intEv, shEv, strEv, unEv, Fr.mark, evRes, tup, lenD, lookupD, loadD, partD, storeD, cellsD, cellOk, setAt, objNe, objSame, eqEv, readEv, buildD, buildRows, rowsOf, elemsOf]
    · rw [rpF_zero]
      exact AHeap.sub_X (by repeat' first | with_reducible exact AHeap.subX_refl | with_reducible exact AHeap.subX_emp | refine AHeap.subX_l (by simp [n1, n2]) ?_ | refine AHeap.subX_r (by simp [n1, n2]) ?_)
    intro k Q2 hk hQ2
    have ls : (rpF A k).1.length = 25 := by rw [len_rpF, lA]
    by_cases c2 : k < 24
    · have g2 : ((k : Int) < 24) = True := by simp; omega
      have wk : IntKind.i64.wrap ((k : Int) + 1) = ((k + 1 : Nat) : Int) := wrap_succ (by omega)
      have sg := encP_get k c2
      have sl := shW_lt ⟨k, c2⟩
      have f1 : rpF A (k + 1) = rpS (rpF A k) k := rpF_succ _ _
      simp only at sg sl
      unfold rpS at f1
      generalize shW.getD k (0, 0) = pr at sg sl f1
      obtain ⟨x, y⟩ := pr
      simp only at sg sl f1
      generalize rpF A k = S at *
      obtain ⟨S, u⟩ := S
      simp only at ls f1
      have ge := encW_get (l := S) (i := y) (by omega)
      have q1 : q25 [.int .u64 (ofW u), .int .i64 x] = some (.int .u64 (ofW (rotL u x))) := by
        rw [q25_eq, if_pos sl.1]
      have y2 : (((y : Nat) : Int) < 25) = True := by simp; omega
      have py : (0 + y * 1) = y := by omega
      have lP : (encP shW).length = 48 := len_shP
      have kl : (k * 2 + 2 ≤ 48) = True := by simp; omega
      simp (config := {maxSteps := 1000000}) only [g2, n1, n2, wk, sg, lP, kl, ge, q1, y2, py, Nat.mul_one, encW_set, len_encW, ls, cW, setAt, tb23_e, Int.natCast_nonneg, Nat.le_refl, Int.le_refl, List.take_succ_cons, List.take_zero, decide_true, decide_false, Bool.and_false, Bool.false_and, zz, zzN, zzF, fltEv, isArithF, ↓reduceIte, Nat.reduceEqDiff, Nat.reduceBEq, Int.reduceLT, Int.reduceLE, Int.reduceToNat, Int.reduceEq, Int.reduceAdd, Int.reduceSub, Int.reduceMul, Int.reduceNeg, Nat.reduceMul, Nat.reduceSub, Nat.reduceLeDiff, Nat.reduceLT, Int.reduceGT, Int.reduceBEq, Int.reduceBNe, reduceCtorEq, Nat.reduceAdd, Ins.map, Fr.ev, argFr, argE, binEv, intEv, shEv, strEv, unEv, Fr.mark, evRes, tup, lenD, lookupD, loadD, partD, storeD, cellsD, cellOk, setAt, objNe, objSame, eqEv, readEv, buildD, buildRows, rowsOf, elemsOf]
      intro e m1 m2 m3 m4
      simp (config := {maxSteps := 1000000}) only [m1, m2, m3, m4, n1, n2, wk, ge, q1, y2, py, Nat.mul_one, encW_set, len_encW, ls, cW, setAt, tb23_e, Int.natCast_nonneg, Nat.le_refl, Int.le_refl, List.take_succ_cons, List.take_zero, decide_true, decide_false, Bool.and_false, Bool.false_and, zz, zzN, zzF, fltEv, isArithF, ↓reduceIte, Nat.reduceEqDiff, Nat.reduceBEq, Int.reduceLT, Int.reduceLE, Int.reduceToNat, Int.reduceEq, Int.reduceAdd, Int.reduceSub, Int.reduceMul, Int.reduceNeg, Nat.reduceMul, Nat.reduceSub, Nat.reduceLeDiff, Nat.reduceLT, Int.reduceGT, Int.reduceBEq, Int.reduceBNe, reduceCtorEq, Nat.reduceAdd, Ins.map, Fr.ev, argFr, argE, binEv, intEv, shEv, strEv, unEv, Fr.mark, evRes, tup, lenD, lookupD, loadD, partD, storeD, cellsD, cellOk, setAt, objNe, objSame, eqEv, readEv, buildD, buildRows, rowsOf, elemsOf]
      refine ⟨by omega, hQ2 (k + 1) _ _ (by omega) (by simp only [f1, Int.natCast_nonneg, Nat.le_refl, Int.le_refl, List.take_succ_cons, List.take_zero, decide_true, decide_false, Bool.and_false, Bool.false_and, zz, zzN, zzF, fltEv, isArithF, ↓reduceIte, Nat.reduceEqDiff, Nat.reduceBEq, Int.reduceLT, Int.reduceLE, Int.reduceToNat, Int.reduceEq, Int.reduceAdd, Int.reduceSub, Int.reduceMul, Int.reduceNeg, Nat.reduceMul, Nat.reduceSub, Nat.reduceLeDiff, Nat.reduceLT, Int.reduceGT, Int.reduceBEq, Int.reduceBNe, reduceCtorEq, Nat.reduceAdd, Ins.map, Fr.ev, argFr, argE, binEv, intEv, shEv, strEv, unEv, Fr.mark, evRes, tup, lenD, lookupD, loadD, partD, storeD, cellsD, cellOk, setAt, objNe, objSame, eqEv, readEv, buildD, buildRows, rowsOf, elemsOf]) ?_ (by omega)⟩
      rw [f1]
      exact AHeap.sub_X (by repeat' first | with_reducible exact AHeap.subX_refl | with_reducible exact AHeap.subX_emp | refine AHeap.subX_l (by simp [n1, n2, m1, m2, m3, m4]) ?_ | refine AHeap.subX_r (by simp [n1, n2, m1, m2, m3, m4]) ?_)
    · have hc : k = 24 := by omega
      subst hc
      have g2 : (((24 : Nat) : Int) < 24) = False := by simp
      simp (config := {maxSteps := 1000000}) only [g2, n1, n2, len_encW, ls, tb23_e, Int.natCast_nonneg, Nat.le_refl, Int.le_refl, List.take_succ_cons, List.take_zero, decide_true, decide_false, Bool.and_false, Bool.false_and, zz, zzN, zzF, fltEv, isArithF, ↓reduceIte, Nat.reduceEqDiff, Nat.reduceBEq, Int.reduceLT, Int.reduceLE, Int.reduceToNat, Int.reduceEq, Int.reduceAdd, Int.reduceSub, Int.reduceMul, Int.reduceNeg, Nat.reduceMul, Nat.reduceSub, Nat.reduceLeDiff, Nat.reduceLT, Int.reduceGT, Int.reduceBEq, Int.reduceBNe, reduceCtorEq, Nat.reduceAdd, Ins.map, Fr.ev, argFr, argE, binEv, intEv, shEv, strEv, unEv, Fr.mark, evRes, tup, lenD, lookupD, loadD, partD, storeD, cellsD, cellOk, setAt, objNe, objSame, eqEv, readEv, buildD, buildRows, rowsOf, elemsOf]
      generalize (rpF A 24).1 = B at *
      clear hQ2
      refine run_loop (X := Nat) (fun j => [(1, .ptr b 1 0), (2, .ptr c 1 0), (4, .int .u64 (ofW (rcW.getD r 0))), (11, .agg (encW rcW)), (12, .int .i64 r), (8, .int .i64 (5 * j : Nat))]) (fun j => (AHeap.emp.set b (.cells (encW (chiF B j)))).set c (.cells (List.replicate 25 (.int .u64 0)))) (fun j => 5 - j) (fun j => j ≤ 5) 0 (by simp) ?_ ?_ ?_
      · simp only [Nat.mul_zero, Int.natCast_nonneg, Nat.le_refl, Int.le_refl, List.take_succ_cons, List.take_zero, decide_true, decide_false, Bool.and_false, Bool.false_and, zz, zzN, zzF, fltEv, isArithF, ↓reduceIte, Nat.reduceEqDiff, Nat.reduceBEq, Int.reduceLT, Int.reduceLE, Int.reduceToNat, Int.reduceEq, Int.reduceAdd, Int.reduceSub, Int.reduceMul, Int.reduceNeg, Nat.reduceMul, Nat.reduceSub, Nat.reduceLeDiff, Nat.reduceLT, Int.reduceGT, Int.reduceBEq, Int.reduceBNe, reduceCtorEq, Nat.reduceAdd, Ins.map, Fr.ev, argFr, argE, binEv, intEv, shEv, strEv, unEv, Fr.mark, evRes, tup, lenD, lookupD, loadD, partD, storeD, cellsD, cellOk, setAt, objNe, objSame, eqEv, readEv, buildD, buildRows, rowsOf, elemsOf]
      · rw [chiF_zero]
        exact AHeap.sub_X (by repeat' first | with_reducible exact AHeap.subX_refl | with_reducible exact AHeap.subX_emp | refine AHeap.subX_l (by simp [n1, n2]) ?_ | refine AHeap.subX_r (by simp [n1, n2]) ?_)
      intro j Q3 hj hQ3
      have lc : (chiF B j).length = 25 := by rw [len_chiF, ls]
      by_cases c3 : j < 5
      · have g3 : (((5 * j : Nat) : Int) < 25) = True := by simp; omega
        have w5 : IntKind.i64.wrap (((5 * j : Nat) : Int) + 5) = ((5 * (j + 1) : Nat) : Int) := by rw [wrap_i64 (by omega) (by omega)]; omega
        have f2 := chiF_succ B j
        unfold chiJ at f2
        generalize chiF B j = C at *
        have lr5 : ((C.drop (5 * j)).take 5).length = 5 := by rw [List.length_take, List.length_drop]; omega
        have er : ((encW C).drop (5 * j)).take 5 = encW ((C.drop (5 * j)).take 5) := by simp [encW, List.map_drop, List.map_take]
        have hs : sliceEv (.arr 25) (.ptr b 1 0) (some (.int .i64 ((5 * j : Nat) : Int))) (some (.int .i64 ((5 * (j + 1) : Nat) : Int))) none = some (.csl b (5 * j) 5) := by
          have h1 : (0 : Int) ≤ ((5 * j : Nat) : Int) ∧ ((5 * j : Nat) : Int) ≤ ((5 * (j + 1) : Nat) : Int) ∧ ((5 * (j + 1) : Nat) : Int) ≤ ((25 : Nat) : Int) := by omega
          simp only [sliceEv, bounds, intOfD]
          rw [if_pos (show True ∧ (25 : Nat) ≤ 9223372036854775807 from ⟨trivial, by decide⟩), if_pos h1]
          simp only [Option.map_some, Int.toNat_natCast, Nat.zero_add]
          have : 5 * (j + 1) - 5 * j = 5 := by clear h1; omega
          rw [this]
        simp (config := {maxSteps := 1000000}) only [hs, v_arrPtr5, g3, w5, n1, n2, er, lr5, len_encW, lc, cW, tb23_e, Int.natCast_nonneg, Nat.le_refl, Int.le_refl, List.take_succ_cons, List.take_zero, decide_true, decide_false, Bool.and_false, Bool.false_and, zz, zzN, zzF, fltEv, isArithF, ↓reduceIte, Nat.reduceEqDiff, Nat.reduceBEq, Int.reduceLT, Int.reduceLE, Int.reduceToNat, Int.reduceEq, Int.reduceAdd, Int.reduceSub, Int.reduceMul, Int.reduceNeg, Nat.reduceMul, Nat.reduceSub, Nat.reduceLeDiff, Nat.reduceLT, Int.reduceGT, Int.reduceBEq, Int.reduceBNe, reduceCtorEq, Nat.reduceAdd, Ins.map, Fr.ev, argFr, argE, binEv, intEv, shEv, strEv, unEv, Fr.mark, evRes, tup, lenD, lookupD, loadD, partD, storeD, cellsD, cellOk, setAt, objNe, objSame, eqEv, readEv, buildD, buildRows, rowsOf, elemsOf]
        refine ⟨by omega, ?_⟩
        have f3 := chiR_zero ((C.drop (5 * j)).take 5) (5 * j) C
        generalize (C.drop (5 * j)).take 5 = R at *
        have l5 : (encW R).length = 5 := by rw [len_encW, lr5]
        intro e m1 m2 m3 m4
        have t5 : (encW R).take 5 = encW R := takeW lr5
        simp (config := {maxSteps := 1000000}) only [m1, m2, m3, m4, n1, n2, cW, l5, setAt_all, t5, g3, w5, tb23_e, Int.natCast_nonneg, Nat.le_refl, Int.le_refl, List.take_succ_cons, List.take_zero, decide_true, decide_false, Bool.and_false, Bool.false_and, zz, zzN, zzF, fltEv, isArithF, ↓reduceIte, Nat.reduceEqDiff, Nat.reduceBEq, Int.reduceLT, Int.reduceLE, Int.reduceToNat, Int.reduceEq, Int.reduceAdd, Int.reduceSub, Int.reduceMul, Int.reduceNeg, Nat.reduceMul, Nat.reduceSub, Nat.reduceLeDiff, Nat.reduceLT, Int.reduceGT, Int.reduceBEq, Int.reduceBNe, reduceCtorEq, Nat.reduceAdd, Ins.map, Fr.ev, argFr, argE, binEv, intEv, shEv, strEv, unEv, Fr.mark, evRes, tup, lenD, lookupD, loadD, partD, storeD, cellsD, cellOk, setAt, objNe, objSame, eqEv, readEv, buildD, buildRows, rowsOf, elemsOf]
        refine run_loop (X := Nat) (fun x => [(1, .ptr b 1 0), (2, .ptr c 1 0), (4, .int .u64 (ofW (rcW.getD r 0))), (9, .ptr e 1 0), (11, .agg (encW rcW)), (12, .int .i64 r), (8, .int .i64 (5 * j : Nat)), (44, .int .i64 x)]) (fun x => ((AHeap.emp.set b (.cells (encW (chiR R (5 * j) C x)))).set c (.cells (List.replicate 25 (.int .u64 0)))).set e (.cells (encW R))) (fun x => 5 - x) (fun x => x ≤ 5) 0 (by simp) ?_ ?_ ?_
        · simp only [Int.natCast_nonneg, Nat.le_refl, Int.le_refl, List.take_succ_cons, List.take_zero, decide_true, decide_false, Bool.and_false, Bool.false_and, zz, zzN, zzF, fltEv, isArithF, ↓reduceIte, Nat.reduceEqDiff, Nat.reduceBEq, Int.reduceLT, Int.reduceLE, Int.reduceToNat, Int.reduceEq, Int.reduceAdd, Int.reduceSub, Int.reduceMul, Int.reduceNeg, Nat.reduceMul, Nat.reduceSub, Nat.reduceLeDiff, Nat.reduceLT, Int.reduceGT, Int.reduceBEq, Int.reduceBNe, reduceCtorEq, Nat.reduceAdd, Ins.map, Fr.ev, argFr, argE, binEv, intEv, shEv, strEv, unEv, Fr.mark, evRes, tup, lenD, lookupD, loadD, partD, storeD, cellsD, cellOk, setAt, objNe, objSame, eqEv, readEv, buildD, buildRows, rowsOf, elemsOf]
        · rw [f3]
          exact AHeap.sub_X (by repeat' first | with_reducible exact AHeap.subX_refl | with_reducible exact AHeap.subX_emp | refine AHeap.subX_l (by simp [n1, n2, m1, m2, m3, m4]) ?_ | refine AHeap.subX_r (by simp [n1, n2, m1, m2, m3, m4]) ?_)
        intro x Q4 hx hQ4
        have ld : (chiR R (5 * j) C x).length = 25 := by rw [len_chiR, lc]
        by_cases c4 : x < 5
        · have g4 : ((x : Int) < 5) = True := by simp; omega
          have g3' : (((5 * j + x : Nat) : Int) < 25) = True := by simp; omega
          have wx : IntKind.i64.wrap ((x : Int) + 1) = ((x + 1 : Nat) : Int) := wrap_succ (by omega)
          have wx2 : IntKind.i64.wrap ((x : Int) + 2) = ((x + 2 : Nat) : Int) := by rw [wrap_i64 (by omega) (by omega)]; omega
          have wjx : IntKind.i64.wrap (((5 * j : Nat) : Int) + (x : Int)) = ((5 * j + x : Nat) : Int) := by rw [wrap_i64 (by omega) (by omega)]; omega
          have mx1 : Int.tmod ((x + 1 : Nat) : Int) 5 = (((x + 1) % 5 : Nat) : Int) := tmod_nat (x + 1) 5
          have mx2 : Int.tmod ((x + 2 : Nat) : Int) 5 = (((x + 2) % 5 : Nat) : Int) := tmod_nat (x + 2) 5
          have lx1 : ((((x + 1) % 5 : Nat) : Int) < 5) = True := by simp; omega
          have lx2 : ((((x + 2) % 5 : Nat) : Int) < 5) = True := by simp; omega
          have gR := encW_get (l := R) (i := x) (by omega)
          have gR1 := encW_get (l := R) (i := (x + 1) % 5) (by omega)
          have gR2 := encW_get (l := R) (i := (x + 2) % 5) (by omega)
          have p1 : (0 + x * 1) = x := by omega
          have f4 := chiR_succ R (5 * j) C x
          unfold chiS at f4
          generalize chiR R (5 * j) C x = G at *
          simp (config := {maxSteps := 1000000}) only [m1, m2, m3, m4, n1, n2, g4, g3', wx, wx2, wjx, mx1, mx2, lx1, lx2, gR, gR1, gR2, p1, w_not, w_xor, w_and, encW_set, len_encW, ld, Nat.mul_one, tb23_e, Int.natCast_nonneg, Nat.le_refl, Int.le_refl, List.take_succ_cons, List.take_zero, decide_true, decide_false, Bool.and_false, Bool.false_and, zz, zzN, zzF, fltEv, isArithF, ↓reduceIte, Nat.reduceEqDiff, Nat.reduceBEq, Int.reduceLT, Int.reduceLE, Int.reduceToNat, Int.reduceEq, Int.reduceAdd, Int.reduceSub, Int.reduceMul, Int.reduceNeg, Nat.reduceMul, Nat.reduceSub, Nat.reduceLeDiff, Nat.reduceLT, Int.reduceGT, Int.reduceBEq, Int.reduceBNe, reduceCtorEq, Nat.reduceAdd, Ins.map, Fr.ev, argFr, argE, binEv, intEv, shEv, strEv, unEv, Fr.mark, evRes, tup, lenD, lookupD, loadD, partD, storeD, cellsD, cellOk, setAt, objNe, objSame, eqEv, readEv, buildD, buildRows, rowsOf, elemsOf]
          refine ⟨by omega, hQ4 (x + 1) _ _ (by omega) (by simp only [Int.natCast_nonneg, Nat.le_refl, Int.le_refl, List.take_succ_cons, List.take_zero, decide_true, decide_false, Bool.and_false, Bool.false_and, zz, zzN, zzF, fltEv, isArithF, ↓reduceIte, Nat.reduceEqDiff, Nat.reduceBEq, Int.reduceLT, Int.reduceLE, Int.reduceToNat, Int.reduceEq, Int.reduceAdd, Int.reduceSub, Int.reduceMul, Int.reduceNeg, Nat.reduceMul, Nat.reduceSub, Nat.reduceLeDiff, Nat.reduceLT, Int.reduceGT, Int.reduceBEq, Int.reduceBNe, reduceCtorEq, Nat.reduceAdd, Ins.map, Fr.ev, argFr, argE, binEv, intEv, shEv, strEv, unEv, Fr.mark, evRes, tup, lenD, lookupD, loadD, partD, storeD, cellsD, cellOk, setAt, objNe, objSame, eqEv, readEv, buildD, buildRows, rowsOf, elemsOf]) ?_ (by omega)⟩
          rw [f4]
          exact AHeap.sub_X (by repeat' first | with_reducible exact AHeap.subX_refl | with_reducible exact AHeap.subX_emp | refine AHeap.subX_l (by simp [n1, n2, m1, m2, m3, m4]) ?_ | refine AHeap.subX_r (by simp [n1, n2, m1, m2, m3, m4]) ?_)
        · have hc : x = 5 := by omega
          subst hc
          have g4 : (((5 : Nat) : Int) < 5) = False := by simp
          generalize chiR R (5 * j) C 5 = G at *
          simp (config := {maxSteps := 1000000}) only [g4, n1, n2, m1, m2, m3, m4, w5, len_encW, tb23_e, Int.natCast_nonneg, Nat.le_refl, Int.le_refl, List.take_succ_cons, List.take_zero, decide_true, decide_false, Bool.and_false, Bool.false_and, zz, zzN, zzF, fltEv, isArithF, ↓reduceIte, Nat.reduceEqDiff, Nat.reduceBEq, Int.reduceLT, Int.reduceLE, Int.reduceToNat, Int.reduceEq, Int.reduceAdd, Int.reduceSub, Int.reduceMul, Int.reduceNeg, Nat.reduceMul, Nat.reduceSub, Nat.reduceLeDiff, Nat.reduceLT, Int.reduceGT, Int.reduceBEq, Int.reduceBNe, reduceCtorEq, Nat.reduceAdd, Ins.map, Fr.ev, argFr, argE, binEv, intEv, shEv, strEv, unEv, Fr.mark, evRes, tup, lenD, lookupD, loadD, partD, storeD, cellsD, cellOk, setAt, objNe, objSame, eqEv, readEv, buildD, buildRows, rowsOf, elemsOf]
          exact hQ3 (j + 1) _ _ (by omega) (by simp only [Int.natCast_nonneg, Nat.le_refl, Int.le_refl, List.take_succ_cons, List.take_zero, decide_true, decide_false, Bool.and_false, Bool.false_and, zz, zzN, zzF, fltEv, isArithF, ↓reduceIte, Nat.reduceEqDiff, Nat.reduceBEq, Int.reduceLT, Int.reduceLE, Int.reduceToNat, Int.reduceEq, Int.reduceAdd, Int.reduceSub, Int.reduceMul, Int.reduceNeg, Nat.reduceMul, Nat.reduceSub, Nat.reduceLeDiff, Nat.reduceLT, Int.reduceGT, Int.reduceBEq, Int.reduceBNe, reduceCtorEq, Nat.reduceAdd, Ins.map, Fr.ev, argFr, argE, binEv, intEv, shEv, strEv, unEv, Fr.mark, evRes, tup, lenD, lookupD, loadD, partD, storeD, cellsD, cellOk, setAt, objNe, objSame, eqEv, readEv, buildD, buildRows, rowsOf, elemsOf]) (by rw [f2]; exact AHeap.sub_X (by repeat' first | with_reducible exact AHeap.subX_refl | with_reducible exact AHeap.subX_emp | refine AHeap.subX_l (by simp [n1, n2, m1, m2, m3, m4]) ?_ | refine AHeap.subX_r (by simp [n1, n2, m1, m2, m3, m4]) ?_)) (by omega)
      · have hc : j = 5 := by omega
        subst hc
        have g3 : (((25 : Nat) : Int) < 25) = False := by simp
        generalize chiF B 5 = C at *
        have g0 := encW_get (l := C) (i := 0) (by omega)
        simp (config := {maxSteps := 1000000}) only [g0, w_xor, wi, encW_set, g3, n1, n2, Nat.reduceMul, len_encW, lc, tb23_e, Int.natCast_nonneg, Nat.le_refl, Int.le_refl, List.take_succ_cons, List.take_zero, decide_true, decide_false, Bool.and_false, Bool.false_and, zz, zzN, zzF, fltEv, isArithF, ↓reduceIte, Nat.reduceEqDiff, Nat.reduceBEq, Int.reduceLT, Int.reduceLE, Int.reduceToNat, Int.reduceEq, Int.reduceAdd, Int.reduceSub, Int.reduceMul, Int.reduceNeg, Nat.reduceMul, Nat.reduceSub, Nat.reduceLeDiff, Nat.reduceLT, Int.reduceGT, Int.reduceBEq, Int.reduceBNe, reduceCtorEq, Nat.reduceAdd, Ins.map, Fr.ev, argFr, argE, binEv, intEv, shEv, strEv, unEv, Fr.mark, evRes, tup, lenD, lookupD, loadD, partD, storeD, cellsD, cellOk, setAt, objNe, objSame, eqEv, readEv, buildD, buildRows, rowsOf, elemsOf]
        refine hQ (r + 1) _ _ (by omega) (by simp only [Int.natCast_nonneg, Nat.le_refl, Int.le_refl, List.take_succ_cons, List.take_zero, decide_true, decide_false, Bool.and_false, Bool.false_and, zz, zzN, zzF, fltEv, isArithF, ↓reduceIte, Nat.reduceEqDiff, Nat.reduceBEq, Int.reduceLT, Int.reduceLE, Int.reduceToNat, Int.reduceEq, Int.reduceAdd, Int.reduceSub, Int.reduceMul, Int.reduceNeg, Nat.reduceMul, Nat.reduceSub, Nat.reduceLeDiff, Nat.reduceLT, Int.reduceGT, Int.reduceBEq, Int.reduceBNe, reduceCtorEq, Nat.reduceAdd, Ins.map, Fr.ev, argFr, argE, binEv, intEv, shEv, strEv, unEv, Fr.mark, evRes, tup, lenD, lookupD, loadD, partD, storeD, cellsD, cellOk, setAt, objNe, objSame, eqEv, readEv, buildD, buildRows, rowsOf, elemsOf]) ?_ (by omega)
        rw [f0]
        unfold iotaF
        exact AHeap.sub_X (by repeat' first | with_reducible exact AHeap.subX_refl | with_reducible exact AHeap.subX_emp | refine AHeap.subX_l (by simp [n1, n2]) ?_ | refine AHeap.subX_r (by simp [n1, n2]) ?_)
  · have g1 : ((r : Int) < 24) = False := by simp; omega
    have hc : r = 24 := by omega
    subst hc
    simp (config := {maxSteps := 1000000}) only [g1, n1, n2, cW, takeW lt, setAt_all, len_encW, lt, tb23_e, Int.natCast_nonneg, Nat.le_refl, Int.le_refl, List.take_succ_cons, List.take_zero, decide_true, decide_false, Bool.and_false, Bool.false_and, zz, zzN, zzF, fltEv, isArithF, ↓reduceIte, Nat.reduceEqDiff, Nat.reduceBEq, Int.reduceLT, Int.reduceLE, Int.reduceToNat, Int.reduceEq, Int.reduceAdd, Int.reduceSub, Int.reduceMul, Int.reduceNeg, Nat.reduceMul, Nat.reduceSub, Nat.reduceLeDiff, Nat.reduceLT, Int.reduceGT, Int.reduceBEq, Int.reduceBNe, reduceCtorEq, Nat.reduceAdd, Ins.map, Fr.ev, argFr, argE, binEv, intEv, shEv, strEv, unEv, Fr.mark, evRes, tup, lenD, lookupD, loadD, partD, storeD, cellsD, cellOk, setAt, objNe, objSame, eqEv, readEv, buildD, buildRows, rowsOf, elemsOf]
end Go.Proofs.Ytiilnakenlegmaa.Zz
