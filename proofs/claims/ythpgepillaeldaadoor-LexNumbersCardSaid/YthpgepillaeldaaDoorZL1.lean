/- Contracts: lex: bytes, runs of bytes, prefixes. -/
import Derived.Test.YthpgepillaeldaaDoorZH1
namespace Go.Proofs.YthpgepillaeldaaDoor.Zz
set_option linter.unusedVariables false
set_option linter.unusedSimpArgs false
set_option maxRecDepth 20000
def p62 : Plan := ⟨⟨[], [], [], [], [], []⟩, []⟩
/-- cupel/lex.letter (1 parameters, 0 captured) -/
def s62 : Stm :=
  .seq (.ops [⟨.mov (.c (.bool false)), (some 2), none, true⟩])
  (.seq (.ops [⟨.mov (.t 0), (some 3), none, true⟩,
     ⟨.bin .geq (.t 3) (.c (.int .u8 97)), (some 4), none, true⟩,
     ⟨.mov (.t 4), (some 5), none, true⟩,
     ⟨.mov (.t 0), (some 6), (some (5, true)), true⟩,
     ⟨.bin .leq (.t 6) (.c (.int .u8 122)), (some 7), (some (5, true)), true⟩,
     ⟨.pick (.t 5) (.t 7) (.c (.bool false)), (some 8), none, true⟩,
     ⟨.mov (.t 8), (some 9), none, true⟩,
     ⟨.mov (.t 0), (some 10), (some (9, false)), true⟩,
     ⟨.bin .geq (.t 10) (.c (.int .u8 65)), (some 11), (some (9, false)), true⟩,
     ⟨.mov (.t 11), (some 12), (some (9, false)), true⟩,
     ⟨.mov (.t 0), (some 13), (some (12, true)), true⟩,
     ⟨.bin .leq (.t 13) (.c (.int .u8 90)), (some 14), (some (12, true)), true⟩,
     ⟨.pick (.t 12) (.t 14) (.c (.bool false)), (some 15), (some (9, false)), true⟩,
     ⟨.pick (.t 9) (.c (.bool true)) (.t 15), (some 16), none, true⟩,
     ⟨.mov (.t 16), (some 17), none, true⟩,
     ⟨.mov (.t 0), (some 18), (some (17, false)), true⟩,
     ⟨.bin .eql (.t 18) (.c (.int .u8 95)), (some 19), (some (17, false)), true⟩,
     ⟨.pick (.t 17) (.c (.bool true)) (.t 19), (some 20), none, true⟩,
     ⟨.mov (.t 20), (some 2), none, true⟩])
  (.ret))
theorem st62 : stmOf Tryd.prog 62 p62 = some (s62, [.tmp 2], 21) := by kernel_rfl

def p63 : Plan := ⟨⟨[], [], [], [], [], []⟩, []⟩
/-- cupel/lex.digit (1 parameters, 0 captured) -/
def s63 : Stm :=
  .seq (.ops [⟨.mov (.c (.bool false)), (some 2), none, true⟩])
  (.seq (.ops [⟨.mov (.t 0), (some 3), none, true⟩,
     ⟨.bin .geq (.t 3) (.c (.int .u8 48)), (some 4), none, true⟩,
     ⟨.mov (.t 4), (some 5), none, true⟩,
     ⟨.mov (.t 0), (some 6), (some (5, true)), true⟩,
     ⟨.bin .leq (.t 6) (.c (.int .u8 57)), (some 7), (some (5, true)), true⟩,
     ⟨.pick (.t 5) (.t 7) (.c (.bool false)), (some 8), none, true⟩,
     ⟨.mov (.t 8), (some 2), none, true⟩])
  (.ret))
theorem st63 : stmOf Tryd.prog 60 p63 = some (s63, [.tmp 2], 9) := by kernel_rfl

def p76 : Plan := ⟨⟨[], [], [], [], [], []⟩, []⟩
/-- cupel/lex.blank$1 (1 parameters, 0 captured) -/
def s76 : Stm :=
  .seq (.ops [⟨.mov (.c (.bool false)), (some 2), none, true⟩])
  (.seq (.ops [⟨.mov (.t 0), (some 3), none, true⟩,
     ⟨.bin .neq (.t 3) (.c (.int .u8 10)), (some 4), none, true⟩,
     ⟨.mov (.t 4), (some 2), none, true⟩])
  (.ret))
theorem st76 : stmOf Tryd.prog 59 p76 = some (s76, [.tmp 2], 5) := by kernel_rfl

def p78 : Plan := ⟨⟨[], [], [], [], [], []⟩, []⟩
/-- cupel/lex.one$1 (1 parameters, 0 captured) -/
def s78 : Stm :=
  .seq (.ops [⟨.mov (.c (.bool false)), (some 2), none, true⟩])
  (.seq (.ops [⟨.mov (.t 0), (some 3), none, true⟩,
     ⟨.qcall (.f 62) [(.t 3)], (some 4), none, false⟩,
     ⟨.mov (.t 4), (some 5), none, true⟩,
     ⟨.mov (.t 0), (some 6), (some (5, false)), true⟩,
     ⟨.qcall (.f 60) [(.t 6)], (some 7), (some (5, false)), false⟩,
     ⟨.pick (.t 5) (.c (.bool true)) (.t 7), (some 8), none, true⟩,
     ⟨.mov (.t 8), (some 2), none, true⟩])
  (.ret))
theorem st78 : stmOf Tryd.prog 63 p78 = some (s78, [.tmp 2], 9) := by kernel_rfl

def p75 : Plan := ⟨⟨[], [], [], [], [], []⟩, []⟩
/-- cupel/lex.run (3 parameters, 0 captured) -/
def s75 : Stm :=
  .seq (.ops [⟨.mov (.c (.int .i64 0)), (some 6), none, true⟩])
  (.seq (.ops [⟨.mov (.c (.int .i64 0)), (some 7), none, true⟩])
  (.seq (.block 0 (.loop (.seq (.seq (.ops [⟨.mov (.t 1), (some 8), none, true⟩,
         ⟨.mov (.t 7), (some 9), none, true⟩,
         ⟨.bin .add (.t 8) (.t 9), (some 10), none, true⟩,
         ⟨.mov (.t 0), (some 11), none, true⟩,
         ⟨.len .str (.t 11), (some 12), none, false⟩,
         ⟨.bin .lss (.t 10) (.t 12), (some 13), none, true⟩,
         ⟨.mov (.t 13), (some 14), none, true⟩,
         ⟨.mov (.t 2), (some 15), (some (14, true)), true⟩,
         ⟨.mov (.t 0), (some 16), (some (14, true)), true⟩,
         ⟨.mov (.t 1), (some 17), (some (14, true)), true⟩,
         ⟨.mov (.t 7), (some 18), (some (14, true)), true⟩,
         ⟨.bin .add (.t 17) (.t 18), (some 19), (some (14, true)), true⟩,
         ⟨.indexS (.t 16) (.t 19), (some 20), (some (14, true)), true⟩,
         ⟨.qcall (.t 15) [(.t 20)], (some 21), (some (14, true)), false⟩,
         ⟨.pick (.t 14) (.t 21) (.c (.bool false)), (some 22), none, true⟩])
      (.cond (.t 22)
       (.skip)
       (.exit 0)))
     (.block 1 (.ops [⟨.mov (.t 7), (some 23), none, true⟩,
        ⟨.bin .add (.t 23) (.c (.int .i64 1)), (some 24), none, true⟩,
        ⟨.mov (.t 24), (some 7), none, true⟩])))))
  (.seq (.ops [⟨.mov (.t 7), (some 25), none, true⟩,
     ⟨.mov (.t 25), (some 6), none, true⟩])
  (.ret))))
theorem st75 : stmOf Tryd.prog 58 p75 = some (s75, [.tmp 6], 26) := by kernel_rfl

def p84 : Plan := ⟨⟨[], [], [], [], [], []⟩, []⟩
/-- internal/stringslite.HasPrefix (2 parameters, 0 captured) -/
def s84 : Stm :=
  .seq (.ops [⟨.mov (.c (.bool false)), (some 4), none, true⟩])
  (.seq (.ops [⟨.mov (.t 0), (some 5), none, true⟩,
     ⟨.len .str (.t 5), (some 6), none, false⟩,
     ⟨.mov (.t 1), (some 7), none, true⟩,
     ⟨.len .str (.t 7), (some 8), none, false⟩,
     ⟨.bin .geq (.t 6) (.t 8), (some 9), none, true⟩,
     ⟨.mov (.t 9), (some 10), none, true⟩,
     ⟨.mov (.t 0), (some 11), (some (10, true)), true⟩,
     ⟨.mov (.t 1), (some 12), (some (10, true)), true⟩,
     ⟨.len .str (.t 12), (some 13), (some (10, true)), false⟩,
     ⟨.slice .str (.t 11) none (some (.t 13)) none, (some 14), (some (10, true)), false⟩,
     ⟨.mov (.t 1), (some 15), (some (10, true)), true⟩,
     ⟨.bin .eql (.t 14) (.t 15), (some 16), (some (10, true)), true⟩,
     ⟨.pick (.t 10) (.t 16) (.c (.bool false)), (some 17), none, true⟩,
     ⟨.mov (.t 17), (some 4), none, true⟩])
  (.ret))
theorem st84 : stmOf Tryd.prog 91 p84 = some (s84, [.tmp 4], 18) := by kernel_rfl

def p74 : Plan := ⟨⟨[], [], [], [], [], []⟩, []⟩
/-- strings.HasPrefix (2 parameters, 0 captured) -/
def s74 : Stm :=
  .seq (.ops [⟨.mov (.c (.bool false)), (some 4), none, true⟩])
  (.seq (.ops [⟨.mov (.t 0), (some 5), none, true⟩,
     ⟨.mov (.t 1), (some 6), none, true⟩,
     ⟨.qcall (.f 91) [(.t 5), (.t 6)], (some 7), none, false⟩,
     ⟨.mov (.t 7), (some 4), none, true⟩])
  (.ret))
theorem st74 : stmOf Tryd.prog 57 p74 = some (s74, [.tmp 4], 8) := by kernel_rfl


def isDigit (n : Int) : Bool := decide (48 ≤ n) && decide (n ≤ 57)
def isLetter (n : Int) : Bool := (decide (97 ≤ n) && decide (n ≤ 122)) || (decide (65 ≤ n) && decide (n ≤ 90)) || n == 95
theorem digit_c (n : Int) : PCall Tryd.prog 60 [.int .u8 n] (.bool (isDigit n)) := by
  refine PCall.run (Tab.zero_ok _) st63 (by simp) fun E => ?_
  simp only [s63, zz, zzN, zzF, fltEv, isArithF, ↓reduceIte, Nat.reduceEqDiff, Nat.reduceBEq, Int.reduceLT, Int.reduceLE, Int.reduceToNat, Int.reduceEq, Int.reduceAdd, Int.reduceSub, Int.reduceMul, Int.reduceNeg, Nat.reduceMul, Nat.reduceSub, Nat.reduceLeDiff, Nat.reduceLT, Int.reduceGT, Int.reduceBEq, Int.reduceBNe, reduceCtorEq, Nat.reduceAdd, Ins.map, Fr.ev, argFr, argE, binEv, intEv, shEv, strEv, unEv, Fr.mark, evRes, tup, lenD, lookupD, loadD, partD, storeD, cellsD, cellOk, setAt, objNe, objSame, eqEv, readEv, buildD, buildRows, rowsOf, elemsOf]
  simp only [isDigit, or_self]
  (repeat' split) <;> simp_all <;> omega
theorem letter_c (n : Int) : PCall Tryd.prog 62 [.int .u8 n] (.bool (isLetter n)) := by
  refine PCall.run (Tab.zero_ok _) st62 (by simp) fun E => ?_
  simp only [s62, zz, zzN, zzF, fltEv, isArithF, ↓reduceIte, Nat.reduceEqDiff, Nat.reduceBEq, Int.reduceLT, Int.reduceLE, Int.reduceToNat, Int.reduceEq, Int.reduceAdd, Int.reduceSub, Int.reduceMul, Int.reduceNeg, Nat.reduceMul, Nat.reduceSub, Nat.reduceLeDiff, Nat.reduceLT, Int.reduceGT, Int.reduceBEq, Int.reduceBNe, reduceCtorEq, Nat.reduceAdd, Ins.map, Fr.ev, argFr, argE, binEv, intEv, shEv, strEv, unEv, Fr.mark, evRes, tup, lenD, lookupD, loadD, partD, storeD, cellsD, cellOk, setAt, objNe, objSame, eqEv, readEv, buildD, buildRows, rowsOf, elemsOf]
  simp only [isLetter, or_self]
  (repeat' split) <;> simp_all <;> omega
def q63 : List D → Option D
  | [.int .u8 n] => if True then some (.bool (isDigit n)) else none
  | _ => none
theorem q63_ok (args : List D) (d : D) (h : q63 args = some d) : PCall Tryd.prog 60 args d := by
  unfold q63 at h
  split at h
  · split at h
    · cases h; exact digit_c _
    · cases h
  · cases h

def q62 : List D → Option D
  | [.int .u8 n] => if True then some (.bool (isLetter n)) else none
  | _ => none
theorem q62_ok (args : List D) (d : D) (h : q62 args = some d) : PCall Tryd.prog 62 args d := by
  unfold q62 at h
  split at h
  · split at h
    · cases h; exact letter_c _
    · cases h
  · cases h

theorem notLf_c (n : Int) : PCall Tryd.prog 59 [.int .u8 n] (.bool (n != 10)) := by
  refine PCall.run (Tab.zero_ok _) st76 (by simp) fun E => ?_
  simp only [s76, zz, zzN, zzF, fltEv, isArithF, ↓reduceIte, Nat.reduceEqDiff, Nat.reduceBEq, Int.reduceLT, Int.reduceLE, Int.reduceToNat, Int.reduceEq, Int.reduceAdd, Int.reduceSub, Int.reduceMul, Int.reduceNeg, Nat.reduceMul, Nat.reduceSub, Nat.reduceLeDiff, Nat.reduceLT, Int.reduceGT, Int.reduceBEq, Int.reduceBNe, reduceCtorEq, Nat.reduceAdd, Ins.map, Fr.ev, argFr, argE, binEv, intEv, shEv, strEv, unEv, Fr.mark, evRes, tup, lenD, lookupD, loadD, partD, storeD, cellsD, cellOk, setAt, objNe, objSame, eqEv, readEv, buildD, buildRows, rowsOf, elemsOf]
def q76 : List D → Option D
  | [.int .u8 n] => if True then some (.bool (n != 10)) else none
  | _ => none
theorem q76_ok (args : List D) (d : D) (h : q76 args = some d) : PCall Tryd.prog 59 args d := by
  unfold q76 at h
  split at h
  · split at h
    · cases h; exact notLf_c _
    · cases h
  · cases h

def tb63 : Tab := Tab.zero.addQ 60 q63
theorem tb63_q (g : FuncId) (args : List D) : tb63.q g args = if g = 60 then q63 args else Tab.zero.q g args := rfl
theorem tb63_a : tb63.a = Tab.zero.a := rfl
theorem tb63_c : tb63.c = Tab.zero.c := rfl
theorem tb63_ok : tb63.ok Tryd.prog := Tab.addQ_ok (Tab.zero_ok _) q63_ok
theorem tb63_e : type_of% (And.intro @tb63_q (And.intro @tb63_a @tb63_c)) := (And.intro @tb63_q (And.intro @tb63_a @tb63_c))

def tb62 : Tab := tb63.addQ 62 q62
theorem tb62_q (g : FuncId) (args : List D) : tb62.q g args = if g = 62 then q62 args else tb63.q g args := rfl
theorem tb62_a : tb62.a = tb63.a := rfl
theorem tb62_c : tb62.c = tb63.c := rfl
theorem tb62_ok : tb62.ok Tryd.prog := Tab.addQ_ok tb63_ok q62_ok
theorem tb62_e : type_of% (And.intro (And.intro @tb62_q (And.intro @tb62_a @tb62_c)) @tb63_e) := (And.intro (And.intro @tb62_q (And.intro @tb62_a @tb62_c)) @tb63_e)

theorem nameByte_c (n : Int) : PCall Tryd.prog 63 [.int .u8 n] (.bool (isLetter n || isDigit n)) := by
  refine PCall.run tb62_ok st78 (by simp) fun E => ?_
  simp only [s78, q62, q63, tb62_e, zz, zzN, zzF, fltEv, isArithF, ↓reduceIte, Nat.reduceEqDiff, Nat.reduceBEq, Int.reduceLT, Int.reduceLE, Int.reduceToNat, Int.reduceEq, Int.reduceAdd, Int.reduceSub, Int.reduceMul, Int.reduceNeg, Nat.reduceMul, Nat.reduceSub, Nat.reduceLeDiff, Nat.reduceLT, Int.reduceGT, Int.reduceBEq, Int.reduceBNe, reduceCtorEq, Nat.reduceAdd, Ins.map, Fr.ev, argFr, argE, binEv, intEv, shEv, strEv, unEv, Fr.mark, evRes, tup, lenD, lookupD, loadD, partD, storeD, cellsD, cellOk, setAt, objNe, objSame, eqEv, readEv, buildD, buildRows, rowsOf, elemsOf]
  split <;> simp_all
def q78 : List D → Option D
  | [.int .u8 n] => if True then some (.bool (isLetter n || isDigit n)) else none
  | _ => none
theorem q78_ok (args : List D) (d : D) (h : q78 args = some d) : PCall Tryd.prog 63 args d := by
  unfold q78 at h
  split at h
  · split at h
    · cases h; exact nameByte_c _
    · cases h
  · cases h

def tb76 : Tab := tb62.addQ 59 q76
theorem tb76_q (g : FuncId) (args : List D) : tb76.q g args = if g = 59 then q76 args else tb62.q g args := rfl
theorem tb76_a : tb76.a = tb62.a := rfl
theorem tb76_c : tb76.c = tb62.c := rfl
theorem tb76_ok : tb76.ok Tryd.prog := Tab.addQ_ok tb62_ok q76_ok
theorem tb76_e : type_of% (And.intro (And.intro @tb76_q (And.intro @tb76_a @tb76_c)) @tb62_e) := (And.intro (And.intro @tb76_q (And.intro @tb76_a @tb76_c)) @tb62_e)

def tb78 : Tab := tb76.addQ 63 q78
theorem tb78_q (g : FuncId) (args : List D) : tb78.q g args = if g = 63 then q78 args else tb76.q g args := rfl
theorem tb78_a : tb78.a = tb76.a := rfl
theorem tb78_c : tb78.c = tb76.c := rfl
theorem tb78_ok : tb78.ok Tryd.prog := Tab.addQ_ok tb76_ok q78_ok
theorem tb78_e : type_of% (And.intro (And.intro @tb78_q (And.intro @tb78_a @tb78_c)) @tb76_e) := (And.intro (And.intro @tb78_q (And.intro @tb78_a @tb78_c)) @tb76_e)


/-- How many bytes from the front on are as they must be. -/
def spn (p : Int → Bool) (l : List UInt8) : Nat := (l.takeWhile fun c => p (c.toNat : Int)).length
theorem spn_le (p : Int → Bool) (l : List UInt8) : spn p l ≤ l.length := by
  have := (List.takeWhile_sublist (l := l) fun c => p (c.toNat : Int)).length_le
  exact this
theorem spn_cons (p : Int → Bool) (c : UInt8) (l : List UInt8) : spn p (c :: l) = if p (c.toNat : Int) = true then spn p l + 1 else 0 := by
  simp only [spn, List.takeWhile_cons]
  split <;> simp
theorem drop_cons {s : List UInt8} {i : Nat} (h : i < s.length) : s.drop i = s.getD i 0 :: s.drop (i + 1) := by
  rw [List.drop_eq_getElem_cons h]
  simp [h]

theorem run_c {k : FuncId} {p : Int → Bool} (hq : ∀ n, tb78.q k [.int .u8 n] = some (.bool (p n))) (s : List UInt8) (a : Nat) (h1 : a ≤ 1000000) (h2 : s.length ≤ 1000000) :
    PCall Tryd.prog 58 [.str s, .int .i64 a, .func (.func k) [] []] (.int .i64 (spn p (s.drop a))) := by
  refine PCall.run tb78_ok st75 (by simp) fun E => ?_
  simp only [s75, zz, zzN, zzF, fltEv, isArithF, ↓reduceIte, Nat.reduceEqDiff, Nat.reduceBEq, Int.reduceLT, Int.reduceLE, Int.reduceToNat, Int.reduceEq, Int.reduceAdd, Int.reduceSub, Int.reduceMul, Int.reduceNeg, Nat.reduceMul, Nat.reduceSub, Nat.reduceLeDiff, Nat.reduceLT, Int.reduceGT, Int.reduceBEq, Int.reduceBNe, reduceCtorEq, Nat.reduceAdd, Ins.map, Fr.ev, argFr, argE, binEv, intEv, shEv, strEv, unEv, Fr.mark, evRes, tup, lenD, lookupD, loadD, partD, storeD, cellsD, cellOk, setAt, objNe, objSame, eqEv, readEv, buildD, buildRows, rowsOf, elemsOf]
  refine run_loop (X := Nat) (fun n => [(0, .str s), (1, .int .i64 a), (2, .func (.func k) [] []), (7, .int .i64 n)]) (fun _ => AHeap.emp) (fun n => s.length - n)
    (fun n => (n = 0 ∨ a + n ≤ s.length) ∧ n + spn p (s.drop (a + n)) = spn p (s.drop a)) 0 (by simp) ?_ (AHeap.sub_refl _) ?_
  · simp only [zz, zzN, zzF, fltEv, isArithF, ↓reduceIte, Nat.reduceEqDiff, Nat.reduceBEq, Int.reduceLT, Int.reduceLE, Int.reduceToNat, Int.reduceEq, Int.reduceAdd, Int.reduceSub, Int.reduceMul, Int.reduceNeg, Nat.reduceMul, Nat.reduceSub, Nat.reduceLeDiff, Nat.reduceLT, Int.reduceGT, Int.reduceBEq, Int.reduceBNe, reduceCtorEq, Nat.reduceAdd, Ins.map, Fr.ev, argFr, argE, binEv, intEv, shEv, strEv, unEv, Fr.mark, evRes, tup, lenD, lookupD, loadD, partD, storeD, cellsD, cellOk, setAt, objNe, objSame, eqEv, readEv, buildD, buildRows, rowsOf, elemsOf]
  · rintro n Q ⟨i1, i2⟩ hQ
    have w1 : IntKind.i64.wrap ((a : Int) + (n : Int)) = ((a + n : Nat) : Int) := wrap_add (by omega)
    have wi : IntKind.i64.wrap ((n : Int) + 1) = ((n + 1 : Nat) : Int) := wrap_succ (by omega)
    by_cases c1 : a + n < s.length
    · have g1 : (((a + n : Nat) : Int) < (s.length : Int)) = True := by simp; omega
      rw [drop_cons c1, spn_cons] at i2
      simp only [g1, w1, wi, hq, decide_true, zz, zzN, zzF, fltEv, isArithF, ↓reduceIte, Nat.reduceEqDiff, Nat.reduceBEq, Int.reduceLT, Int.reduceLE, Int.reduceToNat, Int.reduceEq, Int.reduceAdd, Int.reduceSub, Int.reduceMul, Int.reduceNeg, Nat.reduceMul, Nat.reduceSub, Nat.reduceLeDiff, Nat.reduceLT, Int.reduceGT, Int.reduceBEq, Int.reduceBNe, reduceCtorEq, Nat.reduceAdd, Ins.map, Fr.ev, argFr, argE, binEv, intEv, shEv, strEv, unEv, Fr.mark, evRes, tup, lenD, lookupD, loadD, partD, storeD, cellsD, cellOk, setAt, objNe, objSame, eqEv, readEv, buildD, buildRows, rowsOf, elemsOf]
      intro _
      refine ⟨by omega, ?_⟩
      split
      · rename_i hp
        rw [if_pos hp] at i2
        refine hQ (n + 1) _ _ ⟨by omega, by rw [← Nat.add_assoc]; omega⟩ ?_ (AHeap.sub_refl _) (by omega)
        simp only [zz, zzN, zzF, fltEv, isArithF, ↓reduceIte, Nat.reduceEqDiff, Nat.reduceBEq, Int.reduceLT, Int.reduceLE, Int.reduceToNat, Int.reduceEq, Int.reduceAdd, Int.reduceSub, Int.reduceMul, Int.reduceNeg, Nat.reduceMul, Nat.reduceSub, Nat.reduceLeDiff, Nat.reduceLT, Int.reduceGT, Int.reduceBEq, Int.reduceBNe, reduceCtorEq, Nat.reduceAdd, Ins.map, Fr.ev, argFr, argE, binEv, intEv, shEv, strEv, unEv, Fr.mark, evRes, tup, lenD, lookupD, loadD, partD, storeD, cellsD, cellOk, setAt, objNe, objSame, eqEv, readEv, buildD, buildRows, rowsOf, elemsOf]
      · rename_i hp
        rw [if_neg hp] at i2
        exact .inl (by omega)
    · have g1 : (((a + n : Nat) : Int) < (s.length : Int)) = False := by simp; omega
      have e : s.drop (a + n) = [] := List.drop_of_length_le (by omega)
      rw [e] at i2
      simp only [g1, w1, wi, hq, decide_false, zz, zzN, zzF, fltEv, isArithF, ↓reduceIte, Nat.reduceEqDiff, Nat.reduceBEq, Int.reduceLT, Int.reduceLE, Int.reduceToNat, Int.reduceEq, Int.reduceAdd, Int.reduceSub, Int.reduceMul, Int.reduceNeg, Nat.reduceMul, Nat.reduceSub, Nat.reduceLeDiff, Nat.reduceLT, Int.reduceGT, Int.reduceBEq, Int.reduceBNe, reduceCtorEq, Nat.reduceAdd, Ins.map, Fr.ev, argFr, argE, binEv, intEv, shEv, strEv, unEv, Fr.mark, evRes, tup, lenD, lookupD, loadD, partD, storeD, cellsD, cellOk, setAt, objNe, objSame, eqEv, readEv, buildD, buildRows, rowsOf, elemsOf]
      intro _
      simp only [spn, List.takeWhile_nil, List.length_nil] at i2
      exact .inl (by simp only [spn]; omega)
/-- Does a text begin with another one? -/
def pre (s t : List UInt8) : Bool := s.take t.length == t
theorem hasPre_c (s t : List UInt8) : PCall Tryd.prog 91 [.str s, .str t] (.bool (pre s t)) := by
  refine PCall.run tb78_ok st84 (by simp) fun E => ?_
  simp only [s84, zz, zzN, zzF, fltEv, isArithF, ↓reduceIte, Nat.reduceEqDiff, Nat.reduceBEq, Int.reduceLT, Int.reduceLE, Int.reduceToNat, Int.reduceEq, Int.reduceAdd, Int.reduceSub, Int.reduceMul, Int.reduceNeg, Nat.reduceMul, Nat.reduceSub, Nat.reduceLeDiff, Nat.reduceLT, Int.reduceGT, Int.reduceBEq, Int.reduceBNe, reduceCtorEq, Nat.reduceAdd, Ins.map, Fr.ev, argFr, argE, binEv, intEv, shEv, strEv, unEv, Fr.mark, evRes, tup, lenD, lookupD, loadD, partD, storeD, cellsD, cellOk, setAt, objNe, objSame, eqEv, readEv, buildD, buildRows, rowsOf, elemsOf]
  intro _ _
  split
  · exact fun _ => ⟨⟨by omega, by omega⟩, .inl rfl⟩
  · refine .inl ?_
    rename_i h
    have : s.take t.length = s := List.take_of_length_le (by omega)
    simp only [pre, this]
    symm
    apply beq_eq_false_iff_ne.2
    intro e
    rw [e] at h
    omega
def q84 : List D → Option D
  | [.str s, .str t] => if True then some (.bool (pre s t)) else none
  | _ => none
theorem q84_ok (args : List D) (d : D) (h : q84 args = some d) : PCall Tryd.prog 91 args d := by
  unfold q84 at h
  split at h
  · split at h
    · cases h; exact hasPre_c _ _
    · cases h
  · cases h

def tb84 : Tab := tb78.addQ 91 q84
theorem tb84_q (g : FuncId) (args : List D) : tb84.q g args = if g = 91 then q84 args else tb78.q g args := rfl
theorem tb84_a : tb84.a = tb78.a := rfl
theorem tb84_c : tb84.c = tb78.c := rfl
theorem tb84_ok : tb84.ok Tryd.prog := Tab.addQ_ok tb78_ok q84_ok
theorem tb84_e : type_of% (And.intro (And.intro @tb84_q (And.intro @tb84_a @tb84_c)) @tb78_e) := (And.intro (And.intro @tb84_q (And.intro @tb84_a @tb84_c)) @tb78_e)

theorem hasPrefix_c (s t : List UInt8) : PCall Tryd.prog 57 [.str s, .str t] (.bool (pre s t)) := by
  refine PCall.run tb84_ok st74 (by simp) fun E => ?_
  simp only [s74, q84, tb84_e, zz, zzN, zzF, fltEv, isArithF, ↓reduceIte, Nat.reduceEqDiff, Nat.reduceBEq, Int.reduceLT, Int.reduceLE, Int.reduceToNat, Int.reduceEq, Int.reduceAdd, Int.reduceSub, Int.reduceMul, Int.reduceNeg, Nat.reduceMul, Nat.reduceSub, Nat.reduceLeDiff, Nat.reduceLT, Int.reduceGT, Int.reduceBEq, Int.reduceBNe, reduceCtorEq, Nat.reduceAdd, Ins.map, Fr.ev, argFr, argE, binEv, intEv, shEv, strEv, unEv, Fr.mark, evRes, tup, lenD, lookupD, loadD, partD, storeD, cellsD, cellOk, setAt, objNe, objSame, eqEv, readEv, buildD, buildRows, rowsOf, elemsOf]
def q74 : List D → Option D
  | [.str s, .str t] => if True then some (.bool (pre s t)) else none
  | _ => none
theorem q74_ok (args : List D) (d : D) (h : q74 args = some d) : PCall Tryd.prog 57 args d := by
  unfold q74 at h
  split at h
  · split at h
    · cases h; exact hasPrefix_c _ _
    · cases h
  · cases h

def tb74 : Tab := tb84.addQ 57 q74
theorem tb74_q (g : FuncId) (args : List D) : tb74.q g args = if g = 57 then q74 args else tb84.q g args := rfl
theorem tb74_a : tb74.a = tb84.a := rfl
theorem tb74_c : tb74.c = tb84.c := rfl
theorem tb74_ok : tb74.ok Tryd.prog := Tab.addQ_ok tb84_ok q74_ok
theorem tb74_e : type_of% (And.intro (And.intro @tb74_q (And.intro @tb74_a @tb74_c)) @tb84_e) := (And.intro (And.intro @tb74_q (And.intro @tb74_a @tb74_c)) @tb84_e)


def nameP (n : Int) : Bool := isLetter n || isDigit n
/-- What the callers of 'run' hand it. -/
def isByteP : FuncId → Option (Int → Bool)
  | 60 => some isDigit
  | 59 => some fun n => n != 10
  | 63 => some nameP
  | _ => none
def q75 : List D → Option D
  | [.str s, .int .i64 a, .func (.func k) [] []] => match isByteP k with
    | some p => if 0 ≤ a ∧ a ≤ 1000000 ∧ s.length ≤ 1000000 then some (.int .i64 (spn p (s.drop a.toNat))) else none
    | none => none
  | _ => none
theorem isByteP_q {k : FuncId} {p : Int → Bool} (h : isByteP k = some p) (n : Int) : tb78.q k [.int .u8 n] = some (.bool (p n)) := by
  unfold isByteP at h
  split at h <;> cases h <;> simp [nameP, q63, q76, q78, tb78_q, tb76_q, tb62_q, tb63_q]
theorem q75_ok (args : List D) (d : D) (h : q75 args = some d) : PCall Tryd.prog 58 args d := by
  unfold q75 at h
  split at h
  · rename_i s a k
    split at h
    · rename_i p hp
      split at h
      · rename_i hc
        obtain ⟨n, rfl⟩ := Int.eq_ofNat_of_zero_le hc.1
        cases h
        exact run_c (isByteP_q hp) s n (by omega) hc.2.2
      · cases h
    · cases h
  · cases h
def tb75 : Tab := tb74.addQ 58 q75
theorem tb75_q (g : FuncId) (args : List D) : tb75.q g args = if g = 58 then q75 args else tb74.q g args := rfl
theorem tb75_a : tb75.a = tb74.a := rfl
theorem tb75_c : tb75.c = tb74.c := rfl
theorem tb75_ok : tb75.ok Tryd.prog := Tab.addQ_ok tb74_ok q75_ok
theorem tb75_e : type_of% (And.intro (And.intro @tb75_q (And.intro @tb75_a @tb75_c)) @tb74_e) := (And.intro (And.intro @tb75_q (And.intro @tb75_a @tb75_c)) @tb74_e)

end Go.Proofs.YthpgepillaeldaaDoor.Zz
