/- Contracts: the digest of bytes; two texts. -/
import Derived.Test.YtiilnakenlegmaaZK9
namespace Go.Proofs.Ytiilnakenlegmaa.Zz
set_option linter.unusedVariables false
set_option linter.unusedSimpArgs false
set_option maxRecDepth 20000
def p14 : Plan := ⟨⟨[], [], [], [], [], []⟩, []⟩
/-- cupel/sha.New (0 parameters, 0 captured) -/
def s14 : Stm :=
  .seq (.ops [⟨.mov (.c .nilptr), (some 0), none, true⟩])
  (.seq (.ops [⟨.build [(.int .u64 0), (.int .u64 0), (.int .u64 0), (.int .u64 0), (.int .u64 0), (.int .u64 0), (.int .u64 0), (.int .u64 0), (.int .u64 0), (.int .u64 0), (.int .u64 0), (.int .u64 0), (.int .u64 0), (.int .u64 0), (.int .u64 0), (.int .u64 0), (.int .u64 0), (.int .u64 0), (.int .u64 0), (.int .u64 0), (.int .u64 0), (.int .u64 0), (.int .u64 0), (.int .u64 0), (.int .u64 0), (.int .i64 0)] [], (some 1), none, true⟩,
     ⟨.box (.t 1), (some 2), none, false⟩,
     ⟨.mov (.t 2), (some 0), none, true⟩])
  (.ret))
theorem st14 : stmOf Try.prog 14 p14 = some (s14, [.tmp 0], 3) := by kernel_rfl

def p11 : Plan := ⟨⟨[], [(1, 0), (2, 2), (3, 1)], [], [], [], [(1, 0)]⟩, []⟩
/-- cupel/sha.Sum (1 parameters, 0 captured) -/
def s11 : Stm :=
  .seq (.ops [⟨.mov (.c (.str [])), (some 2), none, true⟩])
  (.seq (.ops [⟨.callA 14, (some 4), none, false⟩,
     ⟨.mov (.t 4), (some 3), none, true⟩])
  (.seq (.ops [⟨.mov (.t 3), (some 5), none, true⟩,
     ⟨.mov (.t 0), (some 6), none, true⟩,
     ⟨.call (.f 15) [(.t 5), (.t 6)], (some 7), none, false⟩])
  (.seq (.ops [⟨.mov (.t 3), (some 8), none, true⟩,
     ⟨.call (.f 16) [(.t 8)], (some 9), none, false⟩,
     ⟨.mov (.t 9), (some 2), none, true⟩])
  (.ret))))
theorem st11 : stmOf Try.prog 11 p11 = some (s11, [.tmp 2], 10) := by kernel_rfl

def p12 : Plan := ⟨⟨[], [], [], [], [], []⟩, []⟩
/-- cupel/cupellaw01.few (1 parameters, 0 captured) -/
def s12 : Stm :=
  .seq (.ops [⟨.mov (.c (.str [])), (some 2), none, true⟩])
  (.seq (.seq (.ops [⟨.mov (.t 0), (some 3), none, true⟩,
      ⟨.len .str (.t 3), (some 4), none, false⟩,
      ⟨.bin .gtr (.t 4) (.c (.int .i64 1200)), (some 5), none, true⟩])
   (.cond (.t 5)
    (.seq (.ops [⟨.mov (.t 0), (some 6), none, true⟩,
        ⟨.slice .str (.t 6) none (some (.c (.int .i64 1200))) none, (some 7), none, false⟩,
        ⟨.mov (.t 7), (some 2), none, true⟩])
     (.ret))
    (.skip)))
  (.seq (.ops [⟨.mov (.t 0), (some 8), none, true⟩,
     ⟨.mov (.t 8), (some 2), none, true⟩])
  (.ret)))
theorem st12 : stmOf Try.prog 12 p12 = some (s12, [.tmp 2], 9) := by kernel_rfl

def p8 : Plan := ⟨⟨[], [], [], [], [], []⟩, []⟩
/-- cupel/cupellaw01.awake (0 parameters, 0 captured) -/
def s8 : Stm :=
  .seq (.ops [⟨.mov (.c (.bool false)), (some 0), none, true⟩])
  (.seq (.ops [⟨.qcall (.f 11) [(.c (.str []))], (some 2), none, false⟩,
     ⟨.mov (.t 2), (some 1), none, true⟩])
  (.seq (.ops [⟨.mov (.t 1), (some 3), none, true⟩,
     ⟨.len .str (.t 3), (some 4), none, false⟩,
     ⟨.bin .eql (.t 4) (.c (.int .i64 32)), (some 5), none, true⟩,
     ⟨.mov (.t 5), (some 6), none, true⟩,
     ⟨.mov (.t 1), (some 7), (some (6, true)), true⟩,
     ⟨.indexS (.t 7) (.c (.int .i64 0)), (some 8), (some (6, true)), true⟩,
     ⟨.bin .eql (.t 8) (.c (.int .u8 167)), (some 9), (some (6, true)), true⟩,
     ⟨.pick (.t 6) (.t 9) (.c (.bool false)), (some 10), none, true⟩,
     ⟨.mov (.t 10), (some 11), none, true⟩,
     ⟨.mov (.t 1), (some 12), (some (11, true)), true⟩,
     ⟨.indexS (.t 12) (.c (.int .i64 1)), (some 13), (some (11, true)), true⟩,
     ⟨.bin .eql (.t 13) (.c (.int .u8 255)), (some 14), (some (11, true)), true⟩,
     ⟨.pick (.t 11) (.t 14) (.c (.bool false)), (some 15), none, true⟩,
     ⟨.mov (.t 15), (some 16), none, true⟩,
     ⟨.mov (.t 1), (some 17), (some (16, true)), true⟩,
     ⟨.indexS (.t 17) (.c (.int .i64 31)), (some 18), (some (16, true)), true⟩,
     ⟨.bin .eql (.t 18) (.c (.int .u8 74)), (some 19), (some (16, true)), true⟩,
     ⟨.pick (.t 16) (.t 19) (.c (.bool false)), (some 20), none, true⟩,
     ⟨.mov (.t 20), (some 0), none, true⟩])
  (.ret)))
theorem st8 : stmOf Try.prog 8 p8 = some (s8, [.tmp 0], 21) := by kernel_rfl

def p17 : Plan := ⟨⟨[], [], [], [], [], []⟩, [(7, [0, 1, 2, 3, 4, 5, 6, 7, 8, 9])]⟩
/-- cupel/sha.Same (2 parameters, 0 captured) -/
def s17 : Stm :=
  .seq (.ops [⟨.mov (.c (.bool false)), (some 4), none, true⟩])
  (.seq (.seq (.ops [⟨.mov (.t 0), (some 7), none, true⟩,
      ⟨.len .str (.t 7), (some 8), none, false⟩,
      ⟨.mov (.t 1), (some 9), none, true⟩,
      ⟨.len .str (.t 9), (some 10), none, false⟩,
      ⟨.bin .neq (.t 8) (.t 10), (some 11), none, true⟩])
   (.cond (.t 11)
    (.seq (.ops [⟨.mov (.c (.bool false)), (some 4), none, true⟩])
     (.ret))
    (.skip)))
  (.seq (.ops [⟨.mov (.c (.int .u8 0)), (some 5), none, true⟩])
  (.seq (.seq (.ops [⟨.mov (.t 0), (some 12), none, true⟩,
      ⟨.len .str (.t 12), (some 13), none, false⟩,
      ⟨.mov (.c (.int .i64 0)), (some 14), none, true⟩])
   (.block 0 (.loop (.seq (.ops [⟨.bin .lss (.t 14) (.t 13), (some 15), none, true⟩])
     (.seq (.cond (.t 15)
       (.skip)
       (.exit 0))
     (.seq (.block 1 (.seq (.ops [⟨.mov (.t 14), (some 16), none, true⟩,
          ⟨.mov (.t 16), (some 6), none, true⟩])
       (.ops [⟨.mov (.t 5), (some 17), none, true⟩,
         ⟨.mov (.t 0), (some 18), none, true⟩,
         ⟨.mov (.t 6), (some 19), none, true⟩,
         ⟨.indexS (.t 18) (.t 19), (some 20), none, true⟩,
         ⟨.mov (.t 1), (some 21), none, true⟩,
         ⟨.mov (.t 6), (some 22), none, true⟩,
         ⟨.indexS (.t 21) (.t 22), (some 23), none, true⟩,
         ⟨.bin .xor (.t 20) (.t 23), (some 24), none, true⟩,
         ⟨.bin .or (.t 17) (.t 24), (some 25), none, true⟩,
         ⟨.mov (.t 25), (some 5), none, true⟩])))
     (.ops [⟨.bin .add (.t 14) (.c (.int .i64 1)), (some 26), none, true⟩,
       ⟨.mov (.t 26), (some 14), none, true⟩])))))))
  (.seq (.ops [⟨.mov (.t 5), (some 27), none, true⟩,
     ⟨.bin .eql (.t 27) (.c (.int .u8 0)), (some 28), none, true⟩,
     ⟨.mov (.t 28), (some 4), none, true⟩])
  (.ret)))))
theorem st17 : stmOf Try.prog 17 p17 = some (s17, [.tmp 4], 29) := by kernel_rfl

def p18 : Plan := ⟨⟨[], [], [], [], [], []⟩, [(1, [0, 1, 2, 3, 4, 5, 6, 7, 8, 10, 11, 9, 12, 13, 14, 15])]⟩
/-- cupel/sha.Collide (1 parameters, 0 captured) -/
def s18 : Stm :=
  .seq (.ops [⟨.box (.t 0), (some 1), none, false⟩,
     ⟨.mov (.c (.bool false)), (some 2), none, true⟩])
  (.seq (.ops [⟨.fieldAddr 0 (.t 1), (some 3), none, true⟩,
     ⟨.load none (.t 3), (some 4), none, false⟩,
     ⟨.fieldAddr 1 (.t 1), (some 5), none, true⟩,
     ⟨.load none (.t 5), (some 6), none, false⟩,
     ⟨.qcall (.f 17) [(.t 4), (.t 6)], (some 7), none, false⟩,
     ⟨.un .not (.t 7), (some 8), none, true⟩,
     ⟨.mov (.t 8), (some 9), none, true⟩,
     ⟨.fieldAddr 0 (.t 1), (some 10), (some (9, true)), true⟩,
     ⟨.load none (.t 10), (some 11), (some (9, true)), false⟩,
     ⟨.fieldAddr 1 (.t 1), (some 13), (some (9, true)), true⟩,
     ⟨.load none (.t 13), (some 14), (some (9, true)), false⟩,
     ⟨.qcall (.f 11) [(.t 11)], (some 12), (some (9, true)), false⟩,
     ⟨.qcall (.f 11) [(.t 14)], (some 15), (some (9, true)), false⟩,
     ⟨.bin .eql (.t 12) (.t 15), (some 16), (some (9, true)), true⟩,
     ⟨.pick (.t 9) (.t 16) (.c (.bool false)), (some 17), none, true⟩,
     ⟨.mov (.t 17), (some 2), none, true⟩])
  (.ret))
theorem st18 : stmOf Try.prog 18 p18 = some (s18, [.tmp 2], 18) := by kernel_rfl

def cWrite (args : List D) (h : AHeap) (K : D → AHeap → Prop) : Prop :=
  (∃ (id : Nat) (s : List W64 × Nat) (l : List UInt8), args = [.ptr id 1 0, .str l] ∧ h.f id = some (.cells (encG s)) ∧ s.1.length = 25 ∧ s.2 < 136 ∧ K (.tuple []) (h.set id (.cells (encG (writeS s l))))) ∨ ∃ l : List UInt8, args = [.nilptr, .str l] ∧ K (.tuple []) h
theorem cWrite_mono (args : List D) (h : AHeap) (K K' : D → AHeap → Prop) (hk : ∀ d h, K d h → K' d h) (c : cWrite args h K) : cWrite args h K' := by
  rcases c with ⟨id, s, l, e, hid, h1, h2, k⟩ | ⟨l, e, k⟩
  · exact .inl ⟨id, s, l, e, hid, h1, h2, hk _ _ k⟩
  · exact .inr ⟨l, e, hk _ _ k⟩
theorem cWrite_ok (args : List D) (h : AHeap) (K : D → AHeap → Prop) (c : cWrite args h K) : ACalls Try.prog 15 args h fun o h' => ∃ d, o = .ret d ∧ K d h' := by
  rcases c with ⟨id, s, l, rfl, hid, h1, h2, k⟩ | ⟨l, rfl, k⟩
  · refine (write_c h id s l hid h1 h2).mono fun o h' hh => ?_
    obtain ⟨d, e1, e2, e3⟩ := hh
    exact ⟨d, e1, by rw [e2, e3]; exact k⟩
  · refine (write_nil h l).mono fun o h' hh => ?_
    obtain ⟨d, e1, e2, e3⟩ := hh
    exact ⟨d, e1, by rw [e2, e3]; exact k⟩
def tb15 : Tab := tb27.addW 15 cWrite cWrite_mono
theorem tb15_q : tb15.q = tb27.q := rfl
theorem tb15_a : tb15.a = tb27.a := rfl
theorem tb15_c (g : FuncId) (args : List D) (h : AHeap) (K E : D → AHeap → Prop) : tb15.c g args h K E = if g = 15 then cWrite args h K else tb27.c g args h K E := rfl
theorem tb15_ok : tb15.ok Try.prog := Tab.addW_ok tb27_ok cWrite_ok
theorem tb15_e : type_of% (And.intro (And.intro @tb15_q (And.intro @tb15_a @tb15_c)) @tb27_e) := (And.intro (And.intro @tb15_q (And.intro @tb15_a @tb15_c)) @tb27_e)

def cSum (args : List D) (h : AHeap) (K : D → AHeap → Prop) : Prop :=
  (∃ (id : Nat) (s : List W64 × Nat), args = [.ptr id 1 0] ∧ h.f id = some (.cells (encG s)) ∧ s.1.length = 25 ∧ s.2 < 136 ∧ K (.str (sumS s)) h) ∨ (args = [.nilptr] ∧ K (.str []) h)
theorem cSum_mono (args : List D) (h : AHeap) (K K' : D → AHeap → Prop) (hk : ∀ d h, K d h → K' d h) (c : cSum args h K) : cSum args h K' := by
  rcases c with ⟨id, s, e, hid, h1, h2, k⟩ | ⟨e, k⟩
  · exact .inl ⟨id, s, e, hid, h1, h2, hk _ _ k⟩
  · exact .inr ⟨e, hk _ _ k⟩
theorem cSum_ok (args : List D) (h : AHeap) (K : D → AHeap → Prop) (c : cSum args h K) : ACalls Try.prog 16 args h fun o h' => ∃ d, o = .ret d ∧ K d h' := by
  rcases c with ⟨id, s, rfl, hid, h1, h2, k⟩ | ⟨rfl, k⟩
  · refine (sum_c h id s hid h1 h2).mono fun o h' hh => ?_
    obtain ⟨d, e1, e2, e3⟩ := hh
    exact ⟨d, e1, by rw [e2, e3]; exact k⟩
  · refine (sum_nil h).mono fun o h' hh => ?_
    obtain ⟨d, e1, e2, e3⟩ := hh
    exact ⟨d, e1, by rw [e2, e3]; exact k⟩
def tb16 : Tab := tb15.addW 16 cSum cSum_mono
theorem tb16_q : tb16.q = tb15.q := rfl
theorem tb16_a : tb16.a = tb15.a := rfl
theorem tb16_c (g : FuncId) (args : List D) (h : AHeap) (K E : D → AHeap → Prop) : tb16.c g args h K E = if g = 16 then cSum args h K else tb15.c g args h K E := rfl
theorem tb16_ok : tb16.ok Try.prog := Tab.addW_ok tb15_ok cSum_ok
theorem tb16_e : type_of% (And.intro (And.intro @tb16_q (And.intro @tb16_a @tb16_c)) @tb15_e) := (And.intro (And.intro @tb16_q (And.intro @tb16_a @tb16_c)) @tb15_e)

theorem new_c (h : AHeap) : ACalls Try.prog 14 [] h fun o h' => ∃ id, h.f id = none ∧ o = .ret (.ptr id 1 0) ∧ h' = h.set id (.cells (encG (zW, 0))) := by
  refine (ACalls.run (K := fun d h' => ∃ id, h.f id = none ∧ d = .ptr id 1 0 ∧ h' = h.set id (.cells (encG (zW, 0)))) (Tab.zero_ok _) st14 (by simp) fun E => ?_).mono fun o h' ⟨d, e, id, a, b, c⟩ => ⟨id, a, by rw [e, b], c⟩
  simp only [s14, Int.natCast_nonneg, Nat.le_refl, Int.le_refl, List.take_succ_cons, List.take_zero, decide_true, decide_false, Bool.and_false, Bool.false_and, zz, zzN, zzF, fltEv, isArithF, ↓reduceIte, Nat.reduceEqDiff, Nat.reduceBEq, Int.reduceLT, Int.reduceLE, Int.reduceToNat, Int.reduceEq, Int.reduceAdd, Int.reduceSub, Int.reduceMul, Int.reduceNeg, Nat.reduceMul, Nat.reduceSub, Nat.reduceLeDiff, Nat.reduceLT, Int.reduceGT, Int.reduceBEq, Int.reduceBNe, reduceCtorEq, Nat.reduceAdd, Ins.map, Fr.ev, argFr, argE, binEv, intEv, shEv, strEv, unEv, Fr.mark, evRes, tup, lenD, lookupD, loadD, partD, storeD, cellsD, cellOk, setAt, objNe, objSame, eqEv, readEv, buildD, buildRows, rowsOf, elemsOf]
  intro id hid
  exact ⟨id, hid, rfl, rfl⟩
def tb14 : Tab := tb16.addA 14 (encG (zW, 0))
theorem tb14_q : tb14.q = tb16.q := rfl
theorem tb14_a (g : FuncId) : tb14.a g = if g = 14 then some (encG (zW, 0)) else tb16.a g := rfl
theorem tb14_c : tb14.c = tb16.c := rfl
theorem tb14_ok : tb14.ok Try.prog := Tab.addA_ok tb16_ok new_c
theorem tb14_e : type_of% (And.intro (And.intro @tb14_q (And.intro @tb14_a @tb14_c)) @tb16_e) := (And.intro (And.intro @tb14_q (And.intro @tb14_a @tb14_c)) @tb16_e)

theorem zW_ok : ((zW, 0) : List W64 × Nat).1.length = 25 ∧ ((zW, 0) : List W64 × Nat).2 < 136 := ⟨rfl, by decide⟩
theorem sha_c (l : List UInt8) : PCall Try.prog 11 [.str l] (.str (shaB l)) := by
  refine PCall.run tb14_ok st11 (by simp) fun E => ?_
  simp (config := {maxSteps := 1000000}) only [s11, tb14_e, Int.natCast_nonneg, Nat.le_refl, Int.le_refl, List.take_succ_cons, List.take_zero, decide_true, decide_false, Bool.and_false, Bool.false_and, zz, zzN, zzF, fltEv, isArithF, ↓reduceIte, Nat.reduceEqDiff, Nat.reduceBEq, Int.reduceLT, Int.reduceLE, Int.reduceToNat, Int.reduceEq, Int.reduceAdd, Int.reduceSub, Int.reduceMul, Int.reduceNeg, Nat.reduceMul, Nat.reduceSub, Nat.reduceLeDiff, Nat.reduceLT, Int.reduceGT, Int.reduceBEq, Int.reduceBNe, reduceCtorEq, Nat.reduceAdd, Ins.map, Fr.ev, argFr, argE, binEv, intEv, shEv, strEv, unEv, Fr.mark, evRes, tup, lenD, lookupD, loadD, partD, storeD, cellsD, cellOk, setAt, objNe, objSame, eqEv, readEv, buildD, buildRows, rowsOf, elemsOf]
  intro id
  refine .inl ⟨id, _, l, rfl, by simp, zW_ok.1, zW_ok.2, ?_⟩
  have ho := writeS_ok (l := l) zW_ok.1 zW_ok.2
  have fs : sumS (writeS (zW, 0) l) = shaB l := rfl
  generalize writeS (zW, 0) l = S at *
  simp (config := {maxSteps := 1000000}) only [tb14_e, Int.natCast_nonneg, Nat.le_refl, Int.le_refl, List.take_succ_cons, List.take_zero, decide_true, decide_false, Bool.and_false, Bool.false_and, zz, zzN, zzF, fltEv, isArithF, ↓reduceIte, Nat.reduceEqDiff, Nat.reduceBEq, Int.reduceLT, Int.reduceLE, Int.reduceToNat, Int.reduceEq, Int.reduceAdd, Int.reduceSub, Int.reduceMul, Int.reduceNeg, Nat.reduceMul, Nat.reduceSub, Nat.reduceLeDiff, Nat.reduceLT, Int.reduceGT, Int.reduceBEq, Int.reduceBNe, reduceCtorEq, Nat.reduceAdd, Ins.map, Fr.ev, argFr, argE, binEv, intEv, shEv, strEv, unEv, Fr.mark, evRes, tup, lenD, lookupD, loadD, partD, storeD, cellsD, cellOk, setAt, objNe, objSame, eqEv, readEv, buildD, buildRows, rowsOf, elemsOf]
  refine .inl ⟨id, S, rfl, by simp, ho.1, ho.2, ?_⟩
  simp (config := {maxSteps := 1000000}) only [fs, tb14_e, Int.natCast_nonneg, Nat.le_refl, Int.le_refl, List.take_succ_cons, List.take_zero, decide_true, decide_false, Bool.and_false, Bool.false_and, zz, zzN, zzF, fltEv, isArithF, ↓reduceIte, Nat.reduceEqDiff, Nat.reduceBEq, Int.reduceLT, Int.reduceLE, Int.reduceToNat, Int.reduceEq, Int.reduceAdd, Int.reduceSub, Int.reduceMul, Int.reduceNeg, Nat.reduceMul, Nat.reduceSub, Nat.reduceLeDiff, Nat.reduceLT, Int.reduceGT, Int.reduceBEq, Int.reduceBNe, reduceCtorEq, Nat.reduceAdd, Ins.map, Fr.ev, argFr, argE, binEv, intEv, shEv, strEv, unEv, Fr.mark, evRes, tup, lenD, lookupD, loadD, partD, storeD, cellsD, cellOk, setAt, objNe, objSame, eqEv, readEv, buildD, buildRows, rowsOf, elemsOf]
def q11 : List D → Option D
  | [.str s] => if True then some (.str (shaB s)) else none
  | _ => none
theorem q11_ok (args : List D) (d : D) (h : q11 args = some d) : PCall Try.prog 11 args d := by
  unfold q11 at h
  split at h
  · split at h
    · cases h; exact sha_c _
    · cases h
  · cases h

def tb11 : Tab := tb14.addQ 11 q11
theorem tb11_q (g : FuncId) (args : List D) : tb11.q g args = if g = 11 then q11 args else tb14.q g args := rfl
theorem tb11_a : tb11.a = tb14.a := rfl
theorem tb11_c : tb11.c = tb14.c := rfl
theorem tb11_ok : tb11.ok Try.prog := Tab.addQ_ok tb14_ok q11_ok
theorem tb11_e : type_of% (And.intro (And.intro @tb11_q (And.intro @tb11_a @tb11_c)) @tb14_e) := (And.intro (And.intro @tb11_q (And.intro @tb11_a @tb11_c)) @tb14_e)

theorem q11_eq (s : List UInt8) : q11 [.str s] = some (.str (shaB s)) := rfl
theorem few_c (s : List UInt8) : PCall Try.prog 12 [.str s] (.str (s.take 1200)) := by
  refine PCall.run (Tab.zero_ok _) st12 (by simp) fun E => ?_
  by_cases c : 1200 < s.length
  · have g1 : ((s.length : Int) > 1200) = True := eq_true (by omega)
    simp (config := {maxSteps := 1000000}) only [s12, g1, Int.natCast_nonneg, Nat.le_refl, Int.le_refl, List.take_succ_cons, List.take_zero, decide_true, decide_false, Bool.and_false, Bool.false_and, zz, zzN, zzF, fltEv, isArithF, ↓reduceIte, Nat.reduceEqDiff, Nat.reduceBEq, Int.reduceLT, Int.reduceLE, Int.reduceToNat, Int.reduceEq, Int.reduceAdd, Int.reduceSub, Int.reduceMul, Int.reduceNeg, Nat.reduceMul, Nat.reduceSub, Nat.reduceLeDiff, Nat.reduceLT, Int.reduceGT, Int.reduceBEq, Int.reduceBNe, reduceCtorEq, Nat.reduceAdd, Ins.map, Fr.ev, argFr, argE, binEv, intEv, shEv, strEv, unEv, Fr.mark, evRes, tup, lenD, lookupD, loadD, partD, storeD, cellsD, cellOk, setAt, objNe, objSame, eqEv, readEv, buildD, buildRows, rowsOf, elemsOf]
    intro _
    omega
  · have g1 : ((s.length : Int) > 1200) = False := eq_false (by omega)
    rw [List.take_of_length_le (by omega)]
    simp (config := {maxSteps := 1000000}) only [s12, g1, Int.natCast_nonneg, Nat.le_refl, Int.le_refl, List.take_succ_cons, List.take_zero, decide_true, decide_false, Bool.and_false, Bool.false_and, zz, zzN, zzF, fltEv, isArithF, ↓reduceIte, Nat.reduceEqDiff, Nat.reduceBEq, Int.reduceLT, Int.reduceLE, Int.reduceToNat, Int.reduceEq, Int.reduceAdd, Int.reduceSub, Int.reduceMul, Int.reduceNeg, Nat.reduceMul, Nat.reduceSub, Nat.reduceLeDiff, Nat.reduceLT, Int.reduceGT, Int.reduceBEq, Int.reduceBNe, reduceCtorEq, Nat.reduceAdd, Ins.map, Fr.ev, argFr, argE, binEv, intEv, shEv, strEv, unEv, Fr.mark, evRes, tup, lenD, lookupD, loadD, partD, storeD, cellsD, cellOk, setAt, objNe, objSame, eqEv, readEv, buildD, buildRows, rowsOf, elemsOf]
def q12 : List D → Option D
  | [.str s] => if True then some (.str (s.take 1200)) else none
  | _ => none
theorem q12_ok (args : List D) (d : D) (h : q12 args = some d) : PCall Try.prog 12 args d := by
  unfold q12 at h
  split at h
  · split at h
    · cases h; exact few_c _
    · cases h
  · cases h

def tb12 : Tab := tb11.addQ 12 q12
theorem tb12_q (g : FuncId) (args : List D) : tb12.q g args = if g = 12 then q12 args else tb11.q g args := rfl
theorem tb12_a : tb12.a = tb11.a := rfl
theorem tb12_c : tb12.c = tb11.c := rfl
theorem tb12_ok : tb12.ok Try.prog := Tab.addQ_ok tb11_ok q12_ok
theorem tb12_e : type_of% (And.intro (And.intro @tb12_q (And.intro @tb12_a @tb12_c)) @tb11_e) := (And.intro (And.intro @tb12_q (And.intro @tb12_a @tb12_c)) @tb11_e)

theorem q12_eq (s : List UInt8) : q12 [.str s] = some (.str (s.take 1200)) := rfl
theorem awake_c : PCall Try.prog 8 [] (.bool true) := by
  refine PCall.run tb12_ok st8 (by simp) fun E => ?_
  have q : q11 [.str []] = some (.str [0xa7, 0xff, 0xc6, 0xf8, 0xbf, 0x1e, 0xd7, 0x66, 0x51, 0xc1, 0x47, 0x56, 0xa0, 0x61, 0xd6, 0x62, 0xf5, 0x80, 0xff, 0x4d, 0xe4, 0x3b, 0x49, 0xfa, 0x82, 0xd8, 0x0a, 0x4b, 0x80, 0xf8, 0x43, 0x4a]) := by
    rw [q11_eq, sha0]
  simp (config := {maxSteps := 1000000}) only [s8, q, tb12_e, Int.natCast_nonneg, Nat.le_refl, Int.le_refl, List.take_succ_cons, List.take_zero, decide_true, decide_false, Bool.and_false, Bool.false_and, zz, zzN, zzF, fltEv, isArithF, ↓reduceIte, Nat.reduceEqDiff, Nat.reduceBEq, Int.reduceLT, Int.reduceLE, Int.reduceToNat, Int.reduceEq, Int.reduceAdd, Int.reduceSub, Int.reduceMul, Int.reduceNeg, Nat.reduceMul, Nat.reduceSub, Nat.reduceLeDiff, Nat.reduceLT, Int.reduceGT, Int.reduceBEq, Int.reduceBNe, reduceCtorEq, Nat.reduceAdd, Ins.map, Fr.ev, argFr, argE, binEv, intEv, shEv, strEv, unEv, Fr.mark, evRes, tup, lenD, lookupD, loadD, partD, storeD, cellsD, cellOk, setAt, objNe, objSame, eqEv, readEv, buildD, buildRows, rowsOf, elemsOf]
  decide
def q8 : List D → Option D
  | [] => if True then some (.bool true) else none
  | _ => none
theorem q8_ok (args : List D) (d : D) (h : q8 args = some d) : PCall Try.prog 8 args d := by
  unfold q8 at h
  split at h
  · split at h
    · cases h; exact awake_c
    · cases h
  · cases h

def tb8 : Tab := tb12.addQ 8 q8
theorem tb8_q (g : FuncId) (args : List D) : tb8.q g args = if g = 8 then q8 args else tb12.q g args := rfl
theorem tb8_a : tb8.a = tb12.a := rfl
theorem tb8_c : tb8.c = tb12.c := rfl
theorem tb8_ok : tb8.ok Try.prog := Tab.addQ_ok tb12_ok q8_ok
theorem tb8_e : type_of% (And.intro (And.intro @tb8_q (And.intro @tb8_a @tb8_c)) @tb12_e) := (And.intro (And.intro @tb8_q (And.intro @tb8_a @tb8_c)) @tb12_e)

theorem q8_eq : q8 [] = some (.bool true) := rfl
theorem b_xor (a b : UInt8) : IntKind.u8.wrap ((BitVec.ofInt IntKind.u8.bits (a.toNat : Int) ^^^ BitVec.ofInt IntKind.u8.bits (b.toNat : Int)).toNat : Int) = ((a ^^^ b).toNat : Int) := by
  have h1 : (BitVec.ofInt IntKind.u8.bits (a.toNat : Int)).toNat = a.toNat := by have := a.toNat_lt; simp [IntKind.bits]
  have h2 : (BitVec.ofInt IntKind.u8.bits (b.toNat : Int)).toNat = b.toNat := by have := b.toNat_lt; simp [IntKind.bits]
  have h3 := Nat.xor_lt_two_pow (n := 8) (x := a.toNat) (y := b.toNat) a.toNat_lt b.toNat_lt
  rw [BitVec.toNat_xor, h1, h2, wrap_u8, UInt8.toNat_xor]
  omega
theorem b_or (a b : UInt8) : IntKind.u8.wrap ((BitVec.ofInt IntKind.u8.bits (a.toNat : Int) ||| BitVec.ofInt IntKind.u8.bits (b.toNat : Int)).toNat : Int) = ((a ||| b).toNat : Int) := by
  have h1 : (BitVec.ofInt IntKind.u8.bits (a.toNat : Int)).toNat = a.toNat := by have := a.toNat_lt; simp [IntKind.bits]
  have h2 : (BitVec.ofInt IntKind.u8.bits (b.toNat : Int)).toNat = b.toNat := by have := b.toNat_lt; simp [IntKind.bits]
  have h3 := Nat.or_lt_two_pow (n := 8) (x := a.toNat) (y := b.toNat) a.toNat_lt b.toNat_lt
  rw [BitVec.toNat_or, h1, h2, wrap_u8, UInt8.toNat_or]
  omega
def diffB (a b : List UInt8) (k : Nat) : UInt8 := (List.range k).foldl (fun x i => x ||| (a.getD i 0 ^^^ b.getD i 0)) 0
theorem diffB_succ (a b : List UInt8) (k : Nat) : diffB a b (k + 1) = diffB a b k ||| (a.getD k 0 ^^^ b.getD k 0) := by unfold diffB; exact fold_succ _ _ _
theorem or_zero (x y : UInt8) : (x ||| y = 0) = (x = 0 ∧ y = 0) := propext UInt8.or_eq_zero_iff
theorem xor_zero (x y : UInt8) : (x ^^^ y = 0) = (x = y) := propext UInt8.xor_eq_zero_iff
theorem diffB_zero (a b : List UInt8) (k : Nat) : (diffB a b k = 0) = ∀ i < k, a.getD i 0 = b.getD i 0 := by
  induction k with
  | zero => simp [diffB]
  | succ k ih =>
    rw [diffB_succ, or_zero, xor_zero, ih]
    apply propext
    constructor
    · intro h i hi
      by_cases e : i = k
      · rw [e]; exact h.2
      · exact h.1 i (by omega)
    · intro h
      exact ⟨fun i hi => h i (by omega), h k (by omega)⟩
theorem diffB_all (a b : List UInt8) (h : a.length = b.length) : (diffB a b a.length = 0) = (a = b) := by
  rw [diffB_zero]
  apply propext
  constructor
  · intro k
    apply List.ext_getElem h
    intro i h1 h2
    have := k i h1
    simpa [h1, h2] using this
  · intro e i _
    rw [e]
theorem same_c (a b : List UInt8) : PCall Try.prog 17 [.str a, .str b] (.bool (a == b)) := by
  refine PCall.run (Tab.zero_ok _) st17 (by simp) fun E => ?_
  by_cases c : a.length = b.length
  · have g1 : ((a.length : Int) != (b.length : Int)) = false := by simp; omega
    simp (config := {maxSteps := 1000000}) only [s17, g1, Int.natCast_nonneg, Nat.le_refl, Int.le_refl, List.take_succ_cons, List.take_zero, decide_true, decide_false, Bool.and_false, Bool.false_and, zz, zzN, zzF, fltEv, isArithF, ↓reduceIte, Nat.reduceEqDiff, Nat.reduceBEq, Int.reduceLT, Int.reduceLE, Int.reduceToNat, Int.reduceEq, Int.reduceAdd, Int.reduceSub, Int.reduceMul, Int.reduceNeg, Nat.reduceMul, Nat.reduceSub, Nat.reduceLeDiff, Nat.reduceLT, Int.reduceGT, Int.reduceBEq, Int.reduceBNe, reduceCtorEq, Nat.reduceAdd, Ins.map, Fr.ev, argFr, argE, binEv, intEv, shEv, strEv, unEv, Fr.mark, evRes, tup, lenD, lookupD, loadD, partD, storeD, cellsD, cellOk, setAt, objNe, objSame, eqEv, readEv, buildD, buildRows, rowsOf, elemsOf]
    intro _ _ ha
    refine run_loop (X := Nat) (fun i => [(0, .str a), (1, .str b), (5, .int .u8 (diffB a b i).toNat), (13, .int .i64 a.length), (14, .int .i64 i)]) (fun i => .emp) (fun i => a.length - i) (fun i => i ≤ a.length) 0 (by simp) ?_ (AHeap.sub_refl _) ?_
    · have e0 : (((diffB a b 0).toNat : Nat) : Int) = 0 := rfl
      simp only [e0, Int.natCast_nonneg, Nat.le_refl, Int.le_refl, List.take_succ_cons, List.take_zero, decide_true, decide_false, Bool.and_false, Bool.false_and, zz, zzN, zzF, fltEv, isArithF, ↓reduceIte, Nat.reduceEqDiff, Nat.reduceBEq, Int.reduceLT, Int.reduceLE, Int.reduceToNat, Int.reduceEq, Int.reduceAdd, Int.reduceSub, Int.reduceMul, Int.reduceNeg, Nat.reduceMul, Nat.reduceSub, Nat.reduceLeDiff, Nat.reduceLT, Int.reduceGT, Int.reduceBEq, Int.reduceBNe, reduceCtorEq, Nat.reduceAdd, Ins.map, Fr.ev, argFr, argE, binEv, intEv, shEv, strEv, unEv, Fr.mark, evRes, tup, lenD, lookupD, loadD, partD, storeD, cellsD, cellOk, setAt, objNe, objSame, eqEv, readEv, buildD, buildRows, rowsOf, elemsOf]
    intro i Q hi hQ
    by_cases d : i < a.length
    · have g1 : ((i : Int) < (a.length : Int)) = True := eq_true (by omega)
      have l2 : ((i : Int) < (b.length : Int)) = True := eq_true (by omega)
      have wi : IntKind.i64.wrap ((i : Int) + 1) = ((i + 1 : Nat) : Int) := wrap_succ (by omega)
      have f := diffB_succ a b i
      generalize diffB a b i = x at *
      simp (config := {maxSteps := 1000000}) only [g1, l2, wi, b_xor, b_or, Int.natCast_nonneg, Nat.le_refl, Int.le_refl, List.take_succ_cons, List.take_zero, decide_true, decide_false, Bool.and_false, Bool.false_and, zz, zzN, zzF, fltEv, isArithF, ↓reduceIte, Nat.reduceEqDiff, Nat.reduceBEq, Int.reduceLT, Int.reduceLE, Int.reduceToNat, Int.reduceEq, Int.reduceAdd, Int.reduceSub, Int.reduceMul, Int.reduceNeg, Nat.reduceMul, Nat.reduceSub, Nat.reduceLeDiff, Nat.reduceLT, Int.reduceGT, Int.reduceBEq, Int.reduceBNe, reduceCtorEq, Nat.reduceAdd, Ins.map, Fr.ev, argFr, argE, binEv, intEv, shEv, strEv, unEv, Fr.mark, evRes, tup, lenD, lookupD, loadD, partD, storeD, cellsD, cellOk, setAt, objNe, objSame, eqEv, readEv, buildD, buildRows, rowsOf, elemsOf]
      exact hQ (i + 1) _ _ (by omega) (by simp only [f, Int.natCast_nonneg, Nat.le_refl, Int.le_refl, List.take_succ_cons, List.take_zero, decide_true, decide_false, Bool.and_false, Bool.false_and, zz, zzN, zzF, fltEv, isArithF, ↓reduceIte, Nat.reduceEqDiff, Nat.reduceBEq, Int.reduceLT, Int.reduceLE, Int.reduceToNat, Int.reduceEq, Int.reduceAdd, Int.reduceSub, Int.reduceMul, Int.reduceNeg, Nat.reduceMul, Nat.reduceSub, Nat.reduceLeDiff, Nat.reduceLT, Int.reduceGT, Int.reduceBEq, Int.reduceBNe, reduceCtorEq, Nat.reduceAdd, Ins.map, Fr.ev, argFr, argE, binEv, intEv, shEv, strEv, unEv, Fr.mark, evRes, tup, lenD, lookupD, loadD, partD, storeD, cellsD, cellOk, setAt, objNe, objSame, eqEv, readEv, buildD, buildRows, rowsOf, elemsOf]) (AHeap.sub_refl _) (by omega)
    · have hc : i = a.length := by omega
      subst hc
      have g1 : ((a.length : Int) < (a.length : Int)) = False := by simp
      have f : ((((diffB a b a.length).toNat : Nat) : Int) == 0) = (a == b) := by
        have k := diffB_all a b c
        have z : ((((diffB a b a.length).toNat : Nat) : Int) == 0) = decide (diffB a b a.length = 0) := by
          generalize diffB a b a.length = x
          have : (x = 0) = (x.toNat = 0) := by
            apply propext
            constructor
            · intro e; rw [e]; rfl
            · intro e; exact UInt8.toNat_inj.mp e
          simp only [this]
          by_cases e : x.toNat = 0
          · simp [e]
          · simp [e]
        rw [z]
        simp only [k]
        by_cases e : a = b
        · simp [e]
        · simp [e]
      simp (config := {maxSteps := 1000000}) only [g1, f, Int.natCast_nonneg, Nat.le_refl, Int.le_refl, List.take_succ_cons, List.take_zero, decide_true, decide_false, Bool.and_false, Bool.false_and, zz, zzN, zzF, fltEv, isArithF, ↓reduceIte, Nat.reduceEqDiff, Nat.reduceBEq, Int.reduceLT, Int.reduceLE, Int.reduceToNat, Int.reduceEq, Int.reduceAdd, Int.reduceSub, Int.reduceMul, Int.reduceNeg, Nat.reduceMul, Nat.reduceSub, Nat.reduceLeDiff, Nat.reduceLT, Int.reduceGT, Int.reduceBEq, Int.reduceBNe, reduceCtorEq, Nat.reduceAdd, Ins.map, Fr.ev, argFr, argE, binEv, intEv, shEv, strEv, unEv, Fr.mark, evRes, tup, lenD, lookupD, loadD, partD, storeD, cellsD, cellOk, setAt, objNe, objSame, eqEv, readEv, buildD, buildRows, rowsOf, elemsOf]
  · have g1 : ((a.length : Int) != (b.length : Int)) = true := by simp; omega
    have e : (a == b) = false := by simp; intro k; exact c (by rw [k])
    rw [e]
    simp (config := {maxSteps := 1000000}) only [s17, g1, Int.natCast_nonneg, Nat.le_refl, Int.le_refl, List.take_succ_cons, List.take_zero, decide_true, decide_false, Bool.and_false, Bool.false_and, zz, zzN, zzF, fltEv, isArithF, ↓reduceIte, Nat.reduceEqDiff, Nat.reduceBEq, Int.reduceLT, Int.reduceLE, Int.reduceToNat, Int.reduceEq, Int.reduceAdd, Int.reduceSub, Int.reduceMul, Int.reduceNeg, Nat.reduceMul, Nat.reduceSub, Nat.reduceLeDiff, Nat.reduceLT, Int.reduceGT, Int.reduceBEq, Int.reduceBNe, reduceCtorEq, Nat.reduceAdd, Ins.map, Fr.ev, argFr, argE, binEv, intEv, shEv, strEv, unEv, Fr.mark, evRes, tup, lenD, lookupD, loadD, partD, storeD, cellsD, cellOk, setAt, objNe, objSame, eqEv, readEv, buildD, buildRows, rowsOf, elemsOf]
def q17 : List D → Option D
  | [.str a, .str b] => if True then some (.bool (a == b)) else none
  | _ => none
theorem q17_ok (args : List D) (d : D) (h : q17 args = some d) : PCall Try.prog 17 args d := by
  unfold q17 at h
  split at h
  · split at h
    · cases h; exact same_c _ _
    · cases h
  · cases h

def tb17 : Tab := tb8.addQ 17 q17
theorem tb17_q (g : FuncId) (args : List D) : tb17.q g args = if g = 17 then q17 args else tb8.q g args := rfl
theorem tb17_a : tb17.a = tb8.a := rfl
theorem tb17_c : tb17.c = tb8.c := rfl
theorem tb17_ok : tb17.ok Try.prog := Tab.addQ_ok tb8_ok q17_ok
theorem tb17_e : type_of% (And.intro (And.intro @tb17_q (And.intro @tb17_a @tb17_c)) @tb8_e) := (And.intro (And.intro @tb17_q (And.intro @tb17_a @tb17_c)) @tb8_e)

theorem q17_eq (a b : List UInt8) : q17 [.str a, .str b] = some (.bool (a == b)) := rfl
theorem collide_c (a b : List UInt8) : PCall Try.prog 18 [.agg [.str a, .str b]] (.bool (!(a == b) && (shaB a == shaB b))) := by
  refine PCall.run tb17_ok st18 (by simp) fun E => ?_
  cases c : (a == b)
  · simp (config := {maxSteps := 1000000}) only [s18, q17_eq, q11_eq, c, tb17_e, Int.natCast_nonneg, Nat.le_refl, Int.le_refl, List.take_succ_cons, List.take_zero, decide_true, decide_false, Bool.and_false, Bool.false_and, zz, zzN, zzF, fltEv, isArithF, ↓reduceIte, Nat.reduceEqDiff, Nat.reduceBEq, Int.reduceLT, Int.reduceLE, Int.reduceToNat, Int.reduceEq, Int.reduceAdd, Int.reduceSub, Int.reduceMul, Int.reduceNeg, Nat.reduceMul, Nat.reduceSub, Nat.reduceLeDiff, Nat.reduceLT, Int.reduceGT, Int.reduceBEq, Int.reduceBNe, reduceCtorEq, Nat.reduceAdd, Ins.map, Fr.ev, argFr, argE, binEv, intEv, shEv, strEv, unEv, Fr.mark, evRes, tup, lenD, lookupD, loadD, partD, storeD, cellsD, cellOk, setAt, objNe, objSame, eqEv, readEv, buildD, buildRows, rowsOf, elemsOf]
  · simp (config := {maxSteps := 1000000}) only [s18, q17_eq, q11_eq, c, tb17_e, Int.natCast_nonneg, Nat.le_refl, Int.le_refl, List.take_succ_cons, List.take_zero, decide_true, decide_false, Bool.and_false, Bool.false_and, zz, zzN, zzF, fltEv, isArithF, ↓reduceIte, Nat.reduceEqDiff, Nat.reduceBEq, Int.reduceLT, Int.reduceLE, Int.reduceToNat, Int.reduceEq, Int.reduceAdd, Int.reduceSub, Int.reduceMul, Int.reduceNeg, Nat.reduceMul, Nat.reduceSub, Nat.reduceLeDiff, Nat.reduceLT, Int.reduceGT, Int.reduceBEq, Int.reduceBNe, reduceCtorEq, Nat.reduceAdd, Ins.map, Fr.ev, argFr, argE, binEv, intEv, shEv, strEv, unEv, Fr.mark, evRes, tup, lenD, lookupD, loadD, partD, storeD, cellsD, cellOk, setAt, objNe, objSame, eqEv, readEv, buildD, buildRows, rowsOf, elemsOf]
end Go.Proofs.Ytiilnakenlegmaa.Zz
