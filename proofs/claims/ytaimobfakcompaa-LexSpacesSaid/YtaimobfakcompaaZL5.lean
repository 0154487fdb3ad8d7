/- Contracts: the document's words. -/
import Derived.Test.YtaimobfakcompaaZL4
namespace Go.Proofs.Ytaimobfakcompaa.Zz
set_option linter.unusedVariables false
set_option linter.unusedSimpArgs false
set_option maxRecDepth 20000
def p53 : Plan := ⟨⟨[], [], [], [], [], []⟩, []⟩
/-- cupel/cupelref09.digit (1 parameters, 0 captured) -/
def s53 : Stm :=
  .seq (.ops [⟨.mov (.c (.bool false)), (some 2), none, true⟩])
  (.seq (.ops [⟨.mov (.t 0), (some 3), none, true⟩,
     ⟨.bin .geq (.t 3) (.c (.int .u8 48)), (some 4), none, true⟩,
     ⟨.mov (.t 4), (some 5), none, true⟩,
     ⟨.mov (.t 0), (some 6), (some (5, true)), true⟩,
     ⟨.bin .leq (.t 6) (.c (.int .u8 57)), (some 7), (some (5, true)), true⟩,
     ⟨.pick (.t 5) (.t 7) (.c (.bool false)), (some 8), none, true⟩,
     ⟨.mov (.t 8), (some 2), none, true⟩])
  (.ret))
theorem st53 : stmOf Try.prog 53 p53 = some (s53, [.tmp 2], 9) := by kernel_rfl

def p55 : Plan := ⟨⟨[], [], [], [], [], []⟩, []⟩
/-- cupel/cupelref09.letter (1 parameters, 0 captured) -/
def s55 : Stm :=
  .seq (.ops [⟨.mov (.c (.bool false)), (some 2), none, true⟩])
  (.seq (.ops [⟨.mov (.t 0), (some 3), none, true⟩,
     ⟨.bin .geq (.t 3) (.c (.int .u8 97)), (some 4), none, true⟩,
     ⟨.mov (.t 4), (some 5), none, true⟩,
     ⟨.mov (.t 0), (some 6), (some (5, true)), true⟩,
     ⟨.bin .leq (.t 6) (.c (.int .u8 122)), (some 7), (some (5, true)), true⟩,
     ⟨.pick (.t 5) (.t 7) (.c (.bool false)), (some 8), none, true⟩,
     ⟨.mov (.t 8), (some 9), none, true⟩,
     ⟨.mov (.t 0), (some 10), (some (9, false)), true⟩,
     ⟨.bin .geq (.t 10) (.c (.int .u8 65)), (some 11), (some (9, false)), true⟩,
     ⟨.mov (.t 11), (some 12), (some (9, false)), true⟩,
     ⟨.mov (.t 0), (some 13), (some (12, true)), true⟩,
     ⟨.bin .leq (.t 13) (.c (.int .u8 90)), (some 14), (some (12, true)), true⟩,
     ⟨.pick (.t 12) (.t 14) (.c (.bool false)), (some 15), (some (9, false)), true⟩,
     ⟨.pick (.t 9) (.c (.bool true)) (.t 15), (some 16), none, true⟩,
     ⟨.mov (.t 16), (some 17), none, true⟩,
     ⟨.mov (.t 0), (some 18), (some (17, false)), true⟩,
     ⟨.bin .eql (.t 18) (.c (.int .u8 95)), (some 19), (some (17, false)), true⟩,
     ⟨.pick (.t 17) (.c (.bool true)) (.t 19), (some 20), none, true⟩,
     ⟨.mov (.t 20), (some 2), none, true⟩])
  (.ret))
theorem st55 : stmOf Try.prog 55 p55 = some (s55, [.tmp 2], 21) := by kernel_rfl

def p66 : Plan := ⟨⟨[], [], [], [], [], []⟩, []⟩
/-- cupel/cupelref09.kept (0 parameters, 0 captured) -/
def s66 : Stm :=
  .seq (.ops [⟨.mov (.c .nilsl), (some 0), none, true⟩])
  (.seq (.ops [⟨.buildSlice 1 [(.str [])] 14 [(0, (.c (.str [102, 117, 110, 99]))), (1, (.c (.str [116, 101, 115, 116]))), (2, (.c (.str [118, 97, 114]))), (3, (.c (.str [105, 102]))), (4, (.c (.str [101, 108, 115, 101]))), (5, (.c (.str [102, 111, 114]))), (6, (.c (.str [114, 101, 116, 117, 114, 110]))), (7, (.c (.str [97, 115, 115, 101, 114, 116]))), (8, (.c (.str [115, 107, 105, 112]))), (9, (.c (.str [116, 114, 117, 101]))), (10, (.c (.str [102, 97, 108, 115, 101]))), (11, (.c (.str [105, 110, 116]))), (12, (.c (.str [102, 108, 111, 97, 116]))), (13, (.c (.str [98, 111, 111, 108])))] false, (some 1), none, true⟩,
     ⟨.mov (.t 1), (some 0), none, true⟩])
  (.ret))
theorem st66 : stmOf Try.prog 66 p66 = some (s66, [.tmp 0], 2) := by kernel_rfl

def p41 : Plan := ⟨⟨[], [], [], [], [], []⟩, []⟩
/-- cupel/cupelref09.Word (1 parameters, 0 captured) -/
def s41 : Stm :=
  .seq (.ops [⟨.mov (.c (.bool false)), (some 2), none, true⟩])
  (.seq (.ops [⟨.qcall (.f 66) [], (some 5), none, false⟩,
     ⟨.mov (.t 5), (some 3), none, true⟩])
  (.seq (.seq (.ops [⟨.mov (.c (.int .i64 0)), (some 4), none, true⟩])
   (.block 0 (.loop (.seq (.seq (.ops [⟨.mov (.t 4), (some 6), none, true⟩,
         ⟨.mov (.t 3), (some 7), none, true⟩,
         ⟨.len .sl (.t 7), (some 8), none, false⟩,
         ⟨.bin .lss (.t 6) (.t 8), (some 9), none, true⟩])
      (.cond (.t 9)
       (.skip)
       (.exit 0)))
     (.seq (.block 1 (.seq (.ops [⟨.mov (.t 3), (some 12), none, true⟩,
          ⟨.mov (.t 4), (some 13), none, true⟩,
          ⟨.indexAddrS 1 (.t 12) (.t 13), (some 14), none, false⟩,
          ⟨.load none (.t 14), (some 15), none, false⟩,
          ⟨.mov (.t 0), (some 16), none, true⟩,
          ⟨.bin .eql (.t 15) (.t 16), (some 17), none, true⟩])
       (.cond (.t 17)
        (.seq (.ops [⟨.mov (.c (.bool true)), (some 2), none, true⟩])
         (.ret))
        (.skip))))
     (.ops [⟨.mov (.t 4), (some 10), none, true⟩,
       ⟨.bin .add (.t 10) (.c (.int .i64 1)), (some 11), none, true⟩,
       ⟨.mov (.t 11), (some 4), none, true⟩]))))))
  (.seq (.ops [⟨.mov (.c (.bool false)), (some 2), none, true⟩])
  (.ret))))
theorem st41 : stmOf Try.prog 41 p41 = some (s41, [.tmp 2], 18) := by kernel_rfl

def p52 : Plan := ⟨⟨[], [], [], [], [], []⟩, []⟩
/-- cupel/cupelref09.skip (2 parameters, 0 captured) -/
def s52 : Stm :=
  .seq (.ops [⟨.mov (.c (.int .i64 0)), (some 4), none, true⟩])
  (.seq (.block 0 (.loop (.seq (.seq (.ops [⟨.mov (.t 1), (some 5), none, true⟩,
         ⟨.mov (.t 0), (some 6), none, true⟩,
         ⟨.len .str (.t 6), (some 7), none, false⟩,
         ⟨.bin .lss (.t 5) (.t 7), (some 8), none, true⟩])
      (.cond (.t 8)
       (.skip)
       (.exit 0)))
     (.block 1 (.seq (.seq (.ops [⟨.mov (.t 0), (some 9), none, true⟩,
          ⟨.mov (.t 1), (some 10), none, true⟩,
          ⟨.indexS (.t 9) (.t 10), (some 11), none, true⟩,
          ⟨.bin .eql (.t 11) (.c (.int .u8 32)), (some 12), none, true⟩,
          ⟨.mov (.t 12), (some 13), none, true⟩,
          ⟨.mov (.t 0), (some 14), (some (13, false)), true⟩,
          ⟨.mov (.t 1), (some 15), (some (13, false)), true⟩,
          ⟨.indexS (.t 14) (.t 15), (some 16), (some (13, false)), true⟩,
          ⟨.bin .eql (.t 16) (.c (.int .u8 9)), (some 17), (some (13, false)), true⟩,
          ⟨.pick (.t 13) (.c (.bool true)) (.t 17), (some 18), none, true⟩,
          ⟨.mov (.t 18), (some 19), none, true⟩,
          ⟨.mov (.t 0), (some 20), (some (19, false)), true⟩,
          ⟨.mov (.t 1), (some 21), (some (19, false)), true⟩,
          ⟨.indexS (.t 20) (.t 21), (some 22), (some (19, false)), true⟩,
          ⟨.bin .eql (.t 22) (.c (.int .u8 10)), (some 23), (some (19, false)), true⟩,
          ⟨.pick (.t 19) (.c (.bool true)) (.t 23), (some 24), none, true⟩])
       (.cond (.t 24)
        (.seq (.ops [⟨.mov (.t 1), (some 25), none, true⟩,
            ⟨.bin .add (.t 25) (.c (.int .i64 1)), (some 26), none, true⟩,
            ⟨.mov (.t 26), (some 1), none, true⟩])
         (.exit 1))
        (.skip)))
      (.seq (.seq (.ops [⟨.mov (.t 0), (some 27), none, true⟩,
          ⟨.mov (.t 1), (some 28), none, true⟩,
          ⟨.indexS (.t 27) (.t 28), (some 29), none, true⟩,
          ⟨.bin .neq (.t 29) (.c (.int .u8 47)), (some 30), none, true⟩,
          ⟨.mov (.t 30), (some 31), none, true⟩,
          ⟨.mov (.t 1), (some 32), (some (31, false)), true⟩,
          ⟨.bin .add (.t 32) (.c (.int .i64 1)), (some 33), (some (31, false)), true⟩,
          ⟨.mov (.t 0), (some 34), (some (31, false)), true⟩,
          ⟨.len .str (.t 34), (some 35), (some (31, false)), false⟩,
          ⟨.bin .geq (.t 33) (.t 35), (some 36), (some (31, false)), true⟩,
          ⟨.pick (.t 31) (.c (.bool true)) (.t 36), (some 37), none, true⟩,
          ⟨.mov (.t 37), (some 38), none, true⟩,
          ⟨.mov (.t 0), (some 39), (some (38, false)), true⟩,
          ⟨.mov (.t 1), (some 40), (some (38, false)), true⟩,
          ⟨.bin .add (.t 40) (.c (.int .i64 1)), (some 41), (some (38, false)), true⟩,
          ⟨.indexS (.t 39) (.t 41), (some 42), (some (38, false)), true⟩,
          ⟨.bin .neq (.t 42) (.c (.int .u8 47)), (some 43), (some (38, false)), true⟩,
          ⟨.pick (.t 38) (.c (.bool true)) (.t 43), (some 44), none, true⟩])
       (.cond (.t 44)
        (.seq (.ops [⟨.mov (.t 1), (some 45), none, true⟩,
            ⟨.mov (.t 45), (some 4), none, true⟩])
         (.ret))
        (.skip)))
      (.block 2 (.loop (.seq (.seq (.ops [⟨.mov (.t 1), (some 46), none, true⟩,
            ⟨.mov (.t 0), (some 47), none, true⟩,
            ⟨.len .str (.t 47), (some 48), none, false⟩,
            ⟨.bin .lss (.t 46) (.t 48), (some 49), none, true⟩,
            ⟨.mov (.t 49), (some 50), none, true⟩,
            ⟨.mov (.t 0), (some 51), (some (50, true)), true⟩,
            ⟨.mov (.t 1), (some 52), (some (50, true)), true⟩,
            ⟨.indexS (.t 51) (.t 52), (some 53), (some (50, true)), true⟩,
            ⟨.bin .neq (.t 53) (.c (.int .u8 10)), (some 54), (some (50, true)), true⟩,
            ⟨.pick (.t 50) (.t 54) (.c (.bool false)), (some 55), none, true⟩])
         (.cond (.t 55)
          (.skip)
          (.exit 2)))
        (.block 3 (.ops [⟨.mov (.t 1), (some 56), none, true⟩,
           ⟨.bin .add (.t 56) (.c (.int .i64 1)), (some 57), none, true⟩,
           ⟨.mov (.t 57), (some 1), none, true⟩])))))))))))
  (.seq (.ops [⟨.mov (.t 1), (some 58), none, true⟩,
     ⟨.mov (.t 58), (some 4), none, true⟩])
  (.ret)))
theorem st52 : stmOf Try.prog 52 p52 = some (s52, [.tmp 4], 59) := by kernel_rfl

def p54 : Plan := ⟨⟨[], [], [], [], [], []⟩, []⟩
/-- cupel/cupelref09.number (2 parameters, 0 captured) -/
def s54 : Stm :=
  .seq (.ops [⟨.mov (.c (.int .i64 0)), (some 4), none, true⟩,
     ⟨.mov (.c (.int .i64 0)), (some 5), none, true⟩])
  (.seq (.ops [⟨.mov (.t 1), (some 8), none, true⟩,
     ⟨.mov (.t 8), (some 6), none, true⟩])
  (.seq (.block 0 (.loop (.seq (.seq (.ops [⟨.mov (.t 6), (some 9), none, true⟩,
         ⟨.mov (.t 0), (some 10), none, true⟩,
         ⟨.len .str (.t 10), (some 11), none, false⟩,
         ⟨.bin .lss (.t 9) (.t 11), (some 12), none, true⟩,
         ⟨.mov (.t 12), (some 13), none, true⟩,
         ⟨.mov (.t 0), (some 14), (some (13, true)), true⟩,
         ⟨.mov (.t 6), (some 15), (some (13, true)), true⟩,
         ⟨.indexS (.t 14) (.t 15), (some 16), (some (13, true)), true⟩,
         ⟨.qcall (.f 53) [(.t 16)], (some 17), (some (13, true)), false⟩,
         ⟨.pick (.t 13) (.t 17) (.c (.bool false)), (some 18), none, true⟩])
      (.cond (.t 18)
       (.skip)
       (.exit 0)))
     (.block 1 (.ops [⟨.mov (.t 6), (some 19), none, true⟩,
        ⟨.bin .add (.t 19) (.c (.int .i64 1)), (some 20), none, true⟩,
        ⟨.mov (.t 20), (some 6), none, true⟩])))))
  (.seq (.seq (.ops [⟨.mov (.t 6), (some 21), none, true⟩,
      ⟨.mov (.t 0), (some 22), none, true⟩,
      ⟨.len .str (.t 22), (some 23), none, false⟩,
      ⟨.bin .lss (.t 21) (.t 23), (some 24), none, true⟩,
      ⟨.mov (.t 24), (some 25), none, true⟩,
      ⟨.mov (.t 0), (some 26), (some (25, true)), true⟩,
      ⟨.mov (.t 6), (some 27), (some (25, true)), true⟩,
      ⟨.indexS (.t 26) (.t 27), (some 28), (some (25, true)), true⟩,
      ⟨.bin .eql (.t 28) (.c (.int .u8 46)), (some 29), (some (25, true)), true⟩,
      ⟨.pick (.t 25) (.t 29) (.c (.bool false)), (some 30), none, true⟩])
   (.cond (.t 30)
    (.seq (.ops [⟨.mov (.t 6), (some 31), none, true⟩,
        ⟨.bin .add (.t 31) (.c (.int .i64 1)), (some 32), none, true⟩,
        ⟨.mov (.t 32), (some 7), none, true⟩])
     (.seq (.block 2 (.loop (.seq (.seq (.ops [⟨.mov (.t 7), (some 33), none, true⟩,
            ⟨.mov (.t 0), (some 34), none, true⟩,
            ⟨.len .str (.t 34), (some 35), none, false⟩,
            ⟨.bin .lss (.t 33) (.t 35), (some 36), none, true⟩,
            ⟨.mov (.t 36), (some 37), none, true⟩,
            ⟨.mov (.t 0), (some 38), (some (37, true)), true⟩,
            ⟨.mov (.t 7), (some 39), (some (37, true)), true⟩,
            ⟨.indexS (.t 38) (.t 39), (some 40), (some (37, true)), true⟩,
            ⟨.qcall (.f 53) [(.t 40)], (some 41), (some (37, true)), false⟩,
            ⟨.pick (.t 37) (.t 41) (.c (.bool false)), (some 42), none, true⟩])
         (.cond (.t 42)
          (.skip)
          (.exit 2)))
        (.block 3 (.ops [⟨.mov (.t 7), (some 43), none, true⟩,
           ⟨.bin .add (.t 43) (.c (.int .i64 1)), (some 44), none, true⟩,
           ⟨.mov (.t 44), (some 7), none, true⟩])))))
     (.seq (.seq (.ops [⟨.mov (.t 7), (some 45), none, true⟩,
         ⟨.mov (.t 6), (some 46), none, true⟩,
         ⟨.bin .add (.t 46) (.c (.int .i64 1)), (some 47), none, true⟩,
         ⟨.bin .eql (.t 45) (.t 47), (some 48), none, true⟩,
         ⟨.mov (.t 48), (some 49), none, true⟩,
         ⟨.mov (.t 7), (some 50), (some (49, false)), true⟩,
         ⟨.bin .sub (.t 50) (.c (.int .i64 1)), (some 51), (some (49, false)), true⟩,
         ⟨.mov (.t 1), (some 52), (some (49, false)), true⟩,
         ⟨.bin .sub (.t 51) (.t 52), (some 53), (some (49, false)), true⟩,
         ⟨.bin .gtr (.t 53) (.c (.int .i64 15)), (some 54), (some (49, false)), true⟩,
         ⟨.pick (.t 49) (.c (.bool true)) (.t 54), (some 55), none, true⟩])
      (.cond (.t 55)
       (.seq (.ops [⟨.mov (.t 7), (some 56), none, true⟩,
           ⟨.mov (.c (.int .i64 0)), (some 4), none, true⟩,
           ⟨.mov (.t 56), (some 5), none, true⟩])
        (.ret))
       (.skip)))
     (.seq (.ops [⟨.mov (.t 7), (some 57), none, true⟩,
        ⟨.mov (.c (.int .i64 3)), (some 4), none, true⟩,
        ⟨.mov (.t 57), (some 5), none, true⟩])
     (.ret)))))
    (.skip)))
  (.seq (.seq (.ops [⟨.mov (.t 6), (some 58), none, true⟩,
      ⟨.mov (.t 1), (some 59), none, true⟩,
      ⟨.bin .sub (.t 58) (.t 59), (some 60), none, true⟩,
      ⟨.bin .gtr (.t 60) (.c (.int .i64 1)), (some 61), none, true⟩,
      ⟨.mov (.t 61), (some 62), none, true⟩,
      ⟨.mov (.t 0), (some 63), (some (62, true)), true⟩,
      ⟨.mov (.t 1), (some 64), (some (62, true)), true⟩,
      ⟨.indexS (.t 63) (.t 64), (some 65), (some (62, true)), true⟩,
      ⟨.bin .eql (.t 65) (.c (.int .u8 48)), (some 66), (some (62, true)), true⟩,
      ⟨.pick (.t 62) (.t 66) (.c (.bool false)), (some 67), none, true⟩,
      ⟨.mov (.t 67), (some 68), none, true⟩,
      ⟨.mov (.t 6), (some 69), (some (68, false)), true⟩,
      ⟨.mov (.t 1), (some 70), (some (68, false)), true⟩,
      ⟨.bin .sub (.t 69) (.t 70), (some 71), (some (68, false)), true⟩,
      ⟨.bin .gtr (.t 71) (.c (.int .i64 19)), (some 72), (some (68, false)), true⟩,
      ⟨.pick (.t 68) (.c (.bool true)) (.t 72), (some 73), none, true⟩,
      ⟨.mov (.t 73), (some 74), none, true⟩,
      ⟨.mov (.t 6), (some 75), (some (74, false)), true⟩,
      ⟨.mov (.t 1), (some 76), (some (74, false)), true⟩,
      ⟨.bin .sub (.t 75) (.t 76), (some 77), (some (74, false)), true⟩,
      ⟨.bin .eql (.t 77) (.c (.int .i64 19)), (some 78), (some (74, false)), true⟩,
      ⟨.mov (.t 78), (some 79), (some (74, false)), true⟩,
      ⟨.mov (.t 0), (some 80), (some (79, true)), true⟩,
      ⟨.mov (.t 1), (some 81), (some (79, true)), true⟩,
      ⟨.mov (.t 6), (some 82), (some (79, true)), true⟩,
      ⟨.slice .str (.t 80) (some (.t 81)) (some (.t 82)) none, (some 83), (some (79, true)), false⟩,
      ⟨.bin .gtr (.t 83) (.c (.str [57, 50, 50, 51, 51, 55, 50, 48, 51, 54, 56, 53, 52, 55, 55, 53, 56, 48, 55])), (some 84), (some (79, true)), true⟩,
      ⟨.pick (.t 79) (.t 84) (.c (.bool false)), (some 85), (some (74, false)), true⟩,
      ⟨.pick (.t 74) (.c (.bool true)) (.t 85), (some 86), none, true⟩])
   (.cond (.t 86)
    (.seq (.ops [⟨.mov (.t 6), (some 87), none, true⟩,
        ⟨.mov (.c (.int .i64 0)), (some 4), none, true⟩,
        ⟨.mov (.t 87), (some 5), none, true⟩])
     (.ret))
    (.skip)))
  (.seq (.ops [⟨.mov (.t 6), (some 88), none, true⟩,
     ⟨.mov (.c (.int .i64 2)), (some 4), none, true⟩,
     ⟨.mov (.t 88), (some 5), none, true⟩])
  (.ret))))))
theorem st54 : stmOf Try.prog 54 p54 = some (s54, [.tmp 4, .tmp 5], 89) := by kernel_rfl


theorem rDigit_c (n : Int) : PCall Try.prog 53 [.int .u8 n] (.bool (isDigit n)) := by
  refine PCall.run (Tab.zero_ok _) st53 (by simp) fun E => ?_
  simp only [s53, zz, zzN, ↓reduceIte, Nat.reduceEqDiff, Nat.reduceBEq, Int.reduceLT, Int.reduceLE, Int.reduceToNat, Int.reduceEq, Int.reduceAdd, Int.reduceSub, Int.reduceMul, Int.reduceNeg, Nat.reduceMul, Nat.reduceSub, Nat.reduceLeDiff, Nat.reduceLT, Int.reduceGT, Int.reduceBEq, Int.reduceBNe, reduceCtorEq, Nat.reduceAdd, Ins.map, Fr.ev, argFr, argE, binEv, intEv, shEv, strEv, unEv, Fr.mark, evRes, tup, lenD, lookupD, loadD, partD, storeD, cellsD, cellOk, setAt, objNe, objSame, eqEv, readEv, buildD, buildRows, rowsOf, elemsOf]
  simp only [isDigit, or_self]
  (repeat' split) <;> simp_all <;> omega
theorem rLetter_c (n : Int) : PCall Try.prog 55 [.int .u8 n] (.bool (isLetter n)) := by
  refine PCall.run (Tab.zero_ok _) st55 (by simp) fun E => ?_
  simp only [s55, zz, zzN, ↓reduceIte, Nat.reduceEqDiff, Nat.reduceBEq, Int.reduceLT, Int.reduceLE, Int.reduceToNat, Int.reduceEq, Int.reduceAdd, Int.reduceSub, Int.reduceMul, Int.reduceNeg, Nat.reduceMul, Nat.reduceSub, Nat.reduceLeDiff, Nat.reduceLT, Int.reduceGT, Int.reduceBEq, Int.reduceBNe, reduceCtorEq, Nat.reduceAdd, Ins.map, Fr.ev, argFr, argE, binEv, intEv, shEv, strEv, unEv, Fr.mark, evRes, tup, lenD, lookupD, loadD, partD, storeD, cellsD, cellOk, setAt, objNe, objSame, eqEv, readEv, buildD, buildRows, rowsOf, elemsOf]
  simp only [isLetter, or_self]
  (repeat' split) <;> simp_all <;> omega
def q53 : List D → Option D
  | [.int .u8 n] => if True then some (.bool (isDigit n)) else none
  | _ => none
theorem q53_ok (args : List D) (d : D) (h : q53 args = some d) : PCall Try.prog 53 args d := by
  unfold q53 at h
  split at h
  · split at h
    · cases h; exact rDigit_c _
    · cases h
  · cases h

def q55 : List D → Option D
  | [.int .u8 n] => if True then some (.bool (isLetter n)) else none
  | _ => none
theorem q55_ok (args : List D) (d : D) (h : q55 args = some d) : PCall Try.prog 55 args d := by
  unfold q55 at h
  split at h
  · split at h
    · cases h; exact rLetter_c _
    · cases h
  · cases h

def tb53 : Tab := tb51.addQ 53 q53
theorem tb53_q (g : FuncId) (args : List D) : tb53.q g args = if g = 53 then q53 args else tb51.q g args := rfl
theorem tb53_a : tb53.a = tb51.a := rfl
theorem tb53_c : tb53.c = tb51.c := rfl
theorem tb53_ok : tb53.ok Try.prog := Tab.addQ_ok tb51_ok q53_ok
theorem tb53_e : type_of% (And.intro (And.intro @tb53_q (And.intro @tb53_a @tb53_c)) @tb51_e) := (And.intro (And.intro @tb53_q (And.intro @tb53_a @tb53_c)) @tb51_e)

def tb55 : Tab := tb53.addQ 55 q55
theorem tb55_q (g : FuncId) (args : List D) : tb55.q g args = if g = 55 then q55 args else tb53.q g args := rfl
theorem tb55_a : tb55.a = tb53.a := rfl
theorem tb55_c : tb55.c = tb53.c := rfl
theorem tb55_ok : tb55.ok Try.prog := Tab.addQ_ok tb53_ok q55_ok
theorem tb55_e : type_of% (And.intro (And.intro @tb55_q (And.intro @tb55_a @tb55_c)) @tb53_e) := (And.intro (And.intro @tb55_q (And.intro @tb55_a @tb55_c)) @tb53_e)

theorem kept_c : PCall Try.prog 66 [] (.sl (encS words)) := by
  refine PCall.run tb55_ok st66 (by simp) fun E => ?_
  simp only [s66, words, encS, tb55_e, zz, zzN, ↓reduceIte, Nat.reduceEqDiff, Nat.reduceBEq, Int.reduceLT, Int.reduceLE, Int.reduceToNat, Int.reduceEq, Int.reduceAdd, Int.reduceSub, Int.reduceMul, Int.reduceNeg, Nat.reduceMul, Nat.reduceSub, Nat.reduceLeDiff, Nat.reduceLT, Int.reduceGT, Int.reduceBEq, Int.reduceBNe, reduceCtorEq, Nat.reduceAdd, Ins.map, Fr.ev, argFr, argE, binEv, intEv, shEv, strEv, unEv, Fr.mark, evRes, tup, lenD, lookupD, loadD, partD, storeD, cellsD, cellOk, setAt, objNe, objSame, eqEv, readEv, buildD, buildRows, rowsOf, elemsOf]
def q66 : List D → Option D
  | [] => if True then some (.sl (encS words)) else none
  | _ => none
theorem q66_ok (args : List D) (d : D) (h : q66 args = some d) : PCall Try.prog 66 args d := by
  unfold q66 at h
  split at h
  · split at h
    · cases h; exact kept_c
    · cases h
  · cases h

def tb66 : Tab := tb55.addQ 66 q66
theorem tb66_q (g : FuncId) (args : List D) : tb66.q g args = if g = 66 then q66 args else tb55.q g args := rfl
theorem tb66_a : tb66.a = tb55.a := rfl
theorem tb66_c : tb66.c = tb55.c := rfl
theorem tb66_ok : tb66.ok Try.prog := Tab.addQ_ok tb55_ok q66_ok
theorem tb66_e : type_of% (And.intro (And.intro @tb66_q (And.intro @tb66_a @tb66_c)) @tb55_e) := (And.intro (And.intro @tb66_q (And.intro @tb66_a @tb66_c)) @tb55_e)

theorem contains_drop {l : List (List UInt8)} {i : Nat} {x s : List UInt8} (h : l[i]? = some x) : (l.drop i).contains s = (s == x || (l.drop (i + 1)).contains s) := by
  rw [drop_get h, List.contains_cons]
theorem rWord_c (s : List UInt8) : PCall Try.prog 41 [.str s] (.bool (words.contains s)) := by
  refine PCall.run tb66_ok st41 (by simp) fun E => ?_
  simp only [s41, q66, tb66_e, zz, zzN, ↓reduceIte, Nat.reduceEqDiff, Nat.reduceBEq, Int.reduceLT, Int.reduceLE, Int.reduceToNat, Int.reduceEq, Int.reduceAdd, Int.reduceSub, Int.reduceMul, Int.reduceNeg, Nat.reduceMul, Nat.reduceSub, Nat.reduceLeDiff, Nat.reduceLT, Int.reduceGT, Int.reduceBEq, Int.reduceBNe, reduceCtorEq, Nat.reduceAdd, Ins.map, Fr.ev, argFr, argE, binEv, intEv, shEv, strEv, unEv, Fr.mark, evRes, tup, lenD, lookupD, loadD, partD, storeD, cellsD, cellOk, setAt, objNe, objSame, eqEv, readEv, buildD, buildRows, rowsOf, elemsOf]
  have lw : words.length = 14 := rfl
  refine run_loop (X := Nat) (fun i => [(0, .str s), (3, .sl (encS words)), (4, .int .i64 i)]) (fun _ => .emp) (fun i => 14 - i) (fun i => i ≤ 14 ∧ (words.drop i).contains s = words.contains s) 0 (by simp) ?_ (AHeap.sub_refl _) ?_
  · simp only [zz, zzN, ↓reduceIte, Nat.reduceEqDiff, Nat.reduceBEq, Int.reduceLT, Int.reduceLE, Int.reduceToNat, Int.reduceEq, Int.reduceAdd, Int.reduceSub, Int.reduceMul, Int.reduceNeg, Nat.reduceMul, Nat.reduceSub, Nat.reduceLeDiff, Nat.reduceLT, Int.reduceGT, Int.reduceBEq, Int.reduceBNe, reduceCtorEq, Nat.reduceAdd, Ins.map, Fr.ev, argFr, argE, binEv, intEv, shEv, strEv, unEv, Fr.mark, evRes, tup, lenD, lookupD, loadD, partD, storeD, cellsD, cellOk, setAt, objNe, objSame, eqEv, readEv, buildD, buildRows, rowsOf, elemsOf]
  · rintro i Q ⟨i1, i2⟩ hQ
    have wi : IntKind.i64.wrap ((i : Int) + 1) = ((i + 1 : Nat) : Int) := wrap_succ (by omega)
    by_cases c1 : i < 14
    · have g1 : ((i : Int) < 14) = True := by simp; omega
      obtain ⟨x, hx⟩ : ∃ x, words[i]? = some x := by rw [List.getElem?_eq_getElem (by omega)]; exact ⟨_, rfl⟩
      rw [contains_drop hx] at i2
      cases c2 : x == s with
      | true =>
        have e : x = s := by simpa using c2
        subst e
        simp only [beq_self_eq_true, Bool.true_or] at i2
        simp only [g1, wi, hx, c2, ← i2, len_encS, lw, askE_encS, decide_true, tb66_e, zz, zzN, ↓reduceIte, Nat.reduceEqDiff, Nat.reduceBEq, Int.reduceLT, Int.reduceLE, Int.reduceToNat, Int.reduceEq, Int.reduceAdd, Int.reduceSub, Int.reduceMul, Int.reduceNeg, Nat.reduceMul, Nat.reduceSub, Nat.reduceLeDiff, Nat.reduceLT, Int.reduceGT, Int.reduceBEq, Int.reduceBNe, reduceCtorEq, Nat.reduceAdd, Ins.map, Fr.ev, argFr, argE, binEv, intEv, shEv, strEv, unEv, Fr.mark, evRes, tup, lenD, lookupD, loadD, partD, storeD, cellsD, cellOk, setAt, objNe, objSame, eqEv, readEv, buildD, buildRows, rowsOf, elemsOf]
        omega
      | false =>
        have e : (s == x) = false := by simp at c2 ⊢; exact fun h => c2 h.symm
        rw [e, Bool.false_or] at i2
        simp only [g1, wi, hx, c2, len_encS, lw, askE_encS, decide_true, tb66_e, zz, zzN, ↓reduceIte, Nat.reduceEqDiff, Nat.reduceBEq, Int.reduceLT, Int.reduceLE, Int.reduceToNat, Int.reduceEq, Int.reduceAdd, Int.reduceSub, Int.reduceMul, Int.reduceNeg, Nat.reduceMul, Nat.reduceSub, Nat.reduceLeDiff, Nat.reduceLT, Int.reduceGT, Int.reduceBEq, Int.reduceBNe, reduceCtorEq, Nat.reduceAdd, Ins.map, Fr.ev, argFr, argE, binEv, intEv, shEv, strEv, unEv, Fr.mark, evRes, tup, lenD, lookupD, loadD, partD, storeD, cellsD, cellOk, setAt, objNe, objSame, eqEv, readEv, buildD, buildRows, rowsOf, elemsOf]
        refine ⟨by omega, ?_⟩
        refine hQ (i + 1) _ _ ⟨by omega, i2⟩ ?_ (AHeap.sub_refl _) (by omega)
        simp only [zz, zzN, ↓reduceIte, Nat.reduceEqDiff, Nat.reduceBEq, Int.reduceLT, Int.reduceLE, Int.reduceToNat, Int.reduceEq, Int.reduceAdd, Int.reduceSub, Int.reduceMul, Int.reduceNeg, Nat.reduceMul, Nat.reduceSub, Nat.reduceLeDiff, Nat.reduceLT, Int.reduceGT, Int.reduceBEq, Int.reduceBNe, reduceCtorEq, Nat.reduceAdd, Ins.map, Fr.ev, argFr, argE, binEv, intEv, shEv, strEv, unEv, Fr.mark, evRes, tup, lenD, lookupD, loadD, partD, storeD, cellsD, cellOk, setAt, objNe, objSame, eqEv, readEv, buildD, buildRows, rowsOf, elemsOf]
    · have g1 : ((i : Int) < 14) = False := by simp; omega
      have e : words.drop i = [] := List.drop_of_length_le (by omega)
      rw [e] at i2
      have i3 : words.contains s = false := by rw [← i2]; rfl
      simp only [g1, len_encS, lw, i3, decide_false, tb66_e, zz, zzN, ↓reduceIte, Nat.reduceEqDiff, Nat.reduceBEq, Int.reduceLT, Int.reduceLE, Int.reduceToNat, Int.reduceEq, Int.reduceAdd, Int.reduceSub, Int.reduceMul, Int.reduceNeg, Nat.reduceMul, Nat.reduceSub, Nat.reduceLeDiff, Nat.reduceLT, Int.reduceGT, Int.reduceBEq, Int.reduceBNe, reduceCtorEq, Nat.reduceAdd, Ins.map, Fr.ev, argFr, argE, binEv, intEv, shEv, strEv, unEv, Fr.mark, evRes, tup, lenD, lookupD, loadD, partD, storeD, cellsD, cellOk, setAt, objNe, objSame, eqEv, readEv, buildD, buildRows, rowsOf, elemsOf]
def q41 : List D → Option D
  | [.str s] => if True then some (.bool (words.contains s)) else none
  | _ => none
theorem q41_ok (args : List D) (d : D) (h : q41 args = some d) : PCall Try.prog 41 args d := by
  unfold q41 at h
  split at h
  · split at h
    · cases h; exact rWord_c _
    · cases h
  · cases h

def tb41 : Tab := tb66.addQ 41 q41
theorem tb41_q (g : FuncId) (args : List D) : tb41.q g args = if g = 41 then q41 args else tb66.q g args := rfl
theorem tb41_a : tb41.a = tb66.a := rfl
theorem tb41_c : tb41.c = tb66.c := rfl
theorem tb41_ok : tb41.ok Try.prog := Tab.addQ_ok tb66_ok q41_ok
theorem tb41_e : type_of% (And.intro (And.intro @tb41_q (And.intro @tb41_a @tb41_c)) @tb66_e) := (And.intro (And.intro @tb41_q (And.intro @tb41_a @tb41_c)) @tb66_e)


theorem bne_of {x y : Int} {b : Bool} (h : (x == y) = b) : (x != y) = !b := by rw [bne, h]
theorem pre_note2 {s : List UInt8} {i : Nat} (h : i < s.length) : pre (s.drop i) [47, 47] = (((s.getD i 0).toNat : Int) == 47 && (decide (i + 1 < s.length) && ((s.getD (i + 1) 0).toNat : Int) == 47)) := by
  have b47 : ∀ c : UInt8, (((c.toNat : Int)) == 47) = (c == 47) := fun c => by
    rw [Bool.eq_iff_iff]
    simp only [beq_iff_eq]
    constructor
    · intro e; exact UInt8.toNat_inj.1 (by simp; omega)
    · rintro rfl; rfl
  rw [b47, b47, drop_cons h]
  by_cases h2 : i + 1 < s.length
  · rw [drop_cons h2]
    generalize s.drop (i + 1 + 1) = r
    generalize s.getD (i + 1) 0 = c1
    generalize s.getD i 0 = c0
    simp [pre, h2]
  · have : s.drop (i + 1) = [] := List.drop_of_length_le (by omega)
    rw [this]
    simp [pre, h2]
set_option maxHeartbeats 1000000 in
theorem skip_c (s : List UInt8) (a : Nat) (h1 : a ≤ s.length) (h2 : s.length ≤ 1000000) : PCall Try.prog 52 [.str s, .int .i64 a] (.int .i64 (a + blankL (s.drop a) : Nat)) := by
  refine PCall.run tb41_ok st52 (by simp) fun E => ?_
  simp only [s52, tb41_e, zz, zzN, ↓reduceIte, Nat.reduceEqDiff, Nat.reduceBEq, Int.reduceLT, Int.reduceLE, Int.reduceToNat, Int.reduceEq, Int.reduceAdd, Int.reduceSub, Int.reduceMul, Int.reduceNeg, Nat.reduceMul, Nat.reduceSub, Nat.reduceLeDiff, Nat.reduceLT, Int.reduceGT, Int.reduceBEq, Int.reduceBNe, reduceCtorEq, Nat.reduceAdd, Ins.map, Fr.ev, argFr, argE, binEv, intEv, shEv, strEv, unEv, Fr.mark, evRes, tup, lenD, lookupD, loadD, partD, storeD, cellsD, cellOk, setAt, objNe, objSame, eqEv, readEv, buildD, buildRows, rowsOf, elemsOf]
  refine run_loop (X := Nat) (fun i => [(0, .str s), (1, .int .i64 i)]) (fun _ => AHeap.emp) (fun i => s.length - i)
    (fun i => a ≤ i ∧ i ≤ s.length ∧ i + blankL (s.drop i) = a + blankL (s.drop a)) a (by simp; omega) ?_ (AHeap.sub_refl _) ?_
  · simp only [zz, zzN, ↓reduceIte, Nat.reduceEqDiff, Nat.reduceBEq, Int.reduceLT, Int.reduceLE, Int.reduceToNat, Int.reduceEq, Int.reduceAdd, Int.reduceSub, Int.reduceMul, Int.reduceNeg, Nat.reduceMul, Nat.reduceSub, Nat.reduceLeDiff, Nat.reduceLT, Int.reduceGT, Int.reduceBEq, Int.reduceBNe, reduceCtorEq, Nat.reduceAdd, Ins.map, Fr.ev, argFr, argE, binEv, intEv, shEv, strEv, unEv, Fr.mark, evRes, tup, lenD, lookupD, loadD, partD, storeD, cellsD, cellOk, setAt, objNe, objSame, eqEv, readEv, buildD, buildRows, rowsOf, elemsOf]
  · rintro i Q ⟨i0, i1, i2⟩ hQ
    have wi : IntKind.i64.wrap ((i : Int) + 1) = ((i + 1 : Nat) : Int) := wrap_succ (by omega)
    by_cases c1 : i < s.length
    · have g1 : ((i : Int) < (s.length : Int)) = True := by simp; omega
      rw [drop_cons c1, blankL_cons] at i2
      rw [← drop_cons c1, pre_note2 c1] at i2
      simp only [isSp] at i2
      cases h32 : (((s.getD i 0).toNat : Int) == 32) with
      | true =>
        simp only [h32, Bool.true_or, if_true] at i2
        simp only [g1, wi, h32, decide_true, tb41_e, zz, zzN, ↓reduceIte, Nat.reduceEqDiff, Nat.reduceBEq, Int.reduceLT, Int.reduceLE, Int.reduceToNat, Int.reduceEq, Int.reduceAdd, Int.reduceSub, Int.reduceMul, Int.reduceNeg, Nat.reduceMul, Nat.reduceSub, Nat.reduceLeDiff, Nat.reduceLT, Int.reduceGT, Int.reduceBEq, Int.reduceBNe, reduceCtorEq, Nat.reduceAdd, Ins.map, Fr.ev, argFr, argE, binEv, intEv, shEv, strEv, unEv, Fr.mark, evRes, tup, lenD, lookupD, loadD, partD, storeD, cellsD, cellOk, setAt, objNe, objSame, eqEv, readEv, buildD, buildRows, rowsOf, elemsOf]
        refine fun _ => ⟨by omega, hQ (i + 1) _ _ ⟨by omega, by omega, by omega⟩ ?_ (AHeap.sub_refl _) (by omega)⟩
        simp only [zz, zzN, ↓reduceIte, Nat.reduceEqDiff, Nat.reduceBEq, Int.reduceLT, Int.reduceLE, Int.reduceToNat, Int.reduceEq, Int.reduceAdd, Int.reduceSub, Int.reduceMul, Int.reduceNeg, Nat.reduceMul, Nat.reduceSub, Nat.reduceLeDiff, Nat.reduceLT, Int.reduceGT, Int.reduceBEq, Int.reduceBNe, reduceCtorEq, Nat.reduceAdd, Ins.map, Fr.ev, argFr, argE, binEv, intEv, shEv, strEv, unEv, Fr.mark, evRes, tup, lenD, lookupD, loadD, partD, storeD, cellsD, cellOk, setAt, objNe, objSame, eqEv, readEv, buildD, buildRows, rowsOf, elemsOf]
      | false =>
      cases h9 : (((s.getD i 0).toNat : Int) == 9) with
      | true =>
        simp only [h32, h9, Bool.true_or, Bool.or_true, if_true] at i2
        simp only [g1, wi, h32, h9, decide_true, tb41_e, zz, zzN, ↓reduceIte, Nat.reduceEqDiff, Nat.reduceBEq, Int.reduceLT, Int.reduceLE, Int.reduceToNat, Int.reduceEq, Int.reduceAdd, Int.reduceSub, Int.reduceMul, Int.reduceNeg, Nat.reduceMul, Nat.reduceSub, Nat.reduceLeDiff, Nat.reduceLT, Int.reduceGT, Int.reduceBEq, Int.reduceBNe, reduceCtorEq, Nat.reduceAdd, Ins.map, Fr.ev, argFr, argE, binEv, intEv, shEv, strEv, unEv, Fr.mark, evRes, tup, lenD, lookupD, loadD, partD, storeD, cellsD, cellOk, setAt, objNe, objSame, eqEv, readEv, buildD, buildRows, rowsOf, elemsOf]
        refine fun _ => ⟨by omega, by omega, hQ (i + 1) _ _ ⟨by omega, by omega, by omega⟩ ?_ (AHeap.sub_refl _) (by omega)⟩
        simp only [zz, zzN, ↓reduceIte, Nat.reduceEqDiff, Nat.reduceBEq, Int.reduceLT, Int.reduceLE, Int.reduceToNat, Int.reduceEq, Int.reduceAdd, Int.reduceSub, Int.reduceMul, Int.reduceNeg, Nat.reduceMul, Nat.reduceSub, Nat.reduceLeDiff, Nat.reduceLT, Int.reduceGT, Int.reduceBEq, Int.reduceBNe, reduceCtorEq, Nat.reduceAdd, Ins.map, Fr.ev, argFr, argE, binEv, intEv, shEv, strEv, unEv, Fr.mark, evRes, tup, lenD, lookupD, loadD, partD, storeD, cellsD, cellOk, setAt, objNe, objSame, eqEv, readEv, buildD, buildRows, rowsOf, elemsOf]
      | false =>
      cases h10 : (((s.getD i 0).toNat : Int) == 10) with
      | true =>
        simp only [h32, h9, h10, Bool.true_or, Bool.or_true, if_true] at i2
        simp only [g1, wi, h32, h9, h10, decide_true, tb41_e, zz, zzN, ↓reduceIte, Nat.reduceEqDiff, Nat.reduceBEq, Int.reduceLT, Int.reduceLE, Int.reduceToNat, Int.reduceEq, Int.reduceAdd, Int.reduceSub, Int.reduceMul, Int.reduceNeg, Nat.reduceMul, Nat.reduceSub, Nat.reduceLeDiff, Nat.reduceLT, Int.reduceGT, Int.reduceBEq, Int.reduceBNe, reduceCtorEq, Nat.reduceAdd, Ins.map, Fr.ev, argFr, argE, binEv, intEv, shEv, strEv, unEv, Fr.mark, evRes, tup, lenD, lookupD, loadD, partD, storeD, cellsD, cellOk, setAt, objNe, objSame, eqEv, readEv, buildD, buildRows, rowsOf, elemsOf]
        refine fun _ => ⟨by omega, by omega, by omega, hQ (i + 1) _ _ ⟨by omega, by omega, by omega⟩ ?_ (AHeap.sub_refl _) (by omega)⟩
        simp only [zz, zzN, ↓reduceIte, Nat.reduceEqDiff, Nat.reduceBEq, Int.reduceLT, Int.reduceLE, Int.reduceToNat, Int.reduceEq, Int.reduceAdd, Int.reduceSub, Int.reduceMul, Int.reduceNeg, Nat.reduceMul, Nat.reduceSub, Nat.reduceLeDiff, Nat.reduceLT, Int.reduceGT, Int.reduceBEq, Int.reduceBNe, reduceCtorEq, Nat.reduceAdd, Ins.map, Fr.ev, argFr, argE, binEv, intEv, shEv, strEv, unEv, Fr.mark, evRes, tup, lenD, lookupD, loadD, partD, storeD, cellsD, cellOk, setAt, objNe, objSame, eqEv, readEv, buildD, buildRows, rowsOf, elemsOf]
      | false =>
      simp only [h32, h9, h10, Bool.false_or, Bool.false_eq_true, if_false] at i2
      cases h47 : (((s.getD i 0).toNat : Int) == 47) with
      | false =>
        have n47 : (((s.getD i 0).toNat : Int) != 47) = true := bne_of h47
        simp only [h47, Bool.false_and, Bool.false_eq_true, if_false] at i2
        simp only [g1, wi, h32, h9, h10, n47, decide_true, tb41_e, zz, zzN, ↓reduceIte, Nat.reduceEqDiff, Nat.reduceBEq, Int.reduceLT, Int.reduceLE, Int.reduceToNat, Int.reduceEq, Int.reduceAdd, Int.reduceSub, Int.reduceMul, Int.reduceNeg, Nat.reduceMul, Nat.reduceSub, Nat.reduceLeDiff, Nat.reduceLT, Int.reduceGT, Int.reduceBEq, Int.reduceBNe, reduceCtorEq, Nat.reduceAdd, Ins.map, Fr.ev, argFr, argE, binEv, intEv, shEv, strEv, unEv, Fr.mark, evRes, tup, lenD, lookupD, loadD, partD, storeD, cellsD, cellOk, setAt, objNe, objSame, eqEv, readEv, buildD, buildRows, rowsOf, elemsOf]
        omega
      | true =>
      have n47 : (((s.getD i 0).toNat : Int) != 47) = false := bne_of h47
      by_cases c3 : i + 1 < s.length
      · have g3 : (((i + 1 : Nat) : Int) ≥ (s.length : Int)) = False := by simp; omega
        cases k47 : (((s.getD (i + 1) 0).toNat : Int) == 47) with
        | false =>
          have m47 : (((s.getD (i + 1) 0).toNat : Int) != 47) = true := bne_of k47
          simp only [h47, k47, Bool.true_and, Bool.and_false, Bool.false_eq_true, if_false] at i2
          simp only [g1, g3, wi, h32, h9, h10, n47, m47, decide_true, decide_false, tb41_e, zz, zzN, ↓reduceIte, Nat.reduceEqDiff, Nat.reduceBEq, Int.reduceLT, Int.reduceLE, Int.reduceToNat, Int.reduceEq, Int.reduceAdd, Int.reduceSub, Int.reduceMul, Int.reduceNeg, Nat.reduceMul, Nat.reduceSub, Nat.reduceLeDiff, Nat.reduceLT, Int.reduceGT, Int.reduceBEq, Int.reduceBNe, reduceCtorEq, Nat.reduceAdd, Ins.map, Fr.ev, argFr, argE, binEv, intEv, shEv, strEv, unEv, Fr.mark, evRes, tup, lenD, lookupD, loadD, partD, storeD, cellsD, cellOk, setAt, objNe, objSame, eqEv, readEv, buildD, buildRows, rowsOf, elemsOf]
          omega
        | true =>
          have m47 : (((s.getD (i + 1) 0).toNat : Int) != 47) = false := bne_of k47
          simp only [h47, k47, decide_eq_true c3, Bool.true_and, if_true] at i2
          simp only [g1, g3, wi, h32, h9, h10, n47, m47, decide_true, decide_false, tb41_e, zz, zzN, ↓reduceIte, Nat.reduceEqDiff, Nat.reduceBEq, Int.reduceLT, Int.reduceLE, Int.reduceToNat, Int.reduceEq, Int.reduceAdd, Int.reduceSub, Int.reduceMul, Int.reduceNeg, Nat.reduceMul, Nat.reduceSub, Nat.reduceLeDiff, Nat.reduceLT, Int.reduceGT, Int.reduceBEq, Int.reduceBNe, reduceCtorEq, Nat.reduceAdd, Ins.map, Fr.ev, argFr, argE, binEv, intEv, shEv, strEv, unEv, Fr.mark, evRes, tup, lenD, lookupD, loadD, partD, storeD, cellsD, cellOk, setAt, objNe, objSame, eqEv, readEv, buildD, buildRows, rowsOf, elemsOf]
          refine fun _ => ⟨by omega, by omega, by omega, by omega, fun _ => ⟨⟨by omega, by omega⟩, ?_⟩⟩
          have hl := spn_le (fun n => n != 10) (s.drop i)
          rw [List.length_drop] at hl
          have hp : 0 < spn (fun n => n != 10) (s.drop i) := by
            refine spn_pos (by simp; omega) ?_
            have : (s.drop i).getD 0 0 = s.getD i 0 := by simp [List.getD]
            rw [this]; exact bne_of h10
          rw [List.drop_drop] at i2
          refine run_loop (X := Nat) (fun j => [(0, .str s), (1, .int .i64 j)]) (fun _ => AHeap.emp) (fun j => s.length - j)
            (fun j => i ≤ j ∧ j ≤ s.length ∧ j + spn (fun n => n != 10) (s.drop j) = i + spn (fun n => n != 10) (s.drop i)) i (by simp; omega) ?_ (AHeap.sub_refl _) ?_
          · simp only [zz, zzN, ↓reduceIte, Nat.reduceEqDiff, Nat.reduceBEq, Int.reduceLT, Int.reduceLE, Int.reduceToNat, Int.reduceEq, Int.reduceAdd, Int.reduceSub, Int.reduceMul, Int.reduceNeg, Nat.reduceMul, Nat.reduceSub, Nat.reduceLeDiff, Nat.reduceLT, Int.reduceGT, Int.reduceBEq, Int.reduceBNe, reduceCtorEq, Nat.reduceAdd, Ins.map, Fr.ev, argFr, argE, binEv, intEv, shEv, strEv, unEv, Fr.mark, evRes, tup, lenD, lookupD, loadD, partD, storeD, cellsD, cellOk, setAt, objNe, objSame, eqEv, readEv, buildD, buildRows, rowsOf, elemsOf]
          · rintro j Q' ⟨j0, j1, j2⟩ hQ'
            have wj : IntKind.i64.wrap ((j : Int) + 1) = ((j + 1 : Nat) : Int) := wrap_succ (by omega)
            have fin : ∀ σ, j = i + spn (fun n => n != 10) (s.drop i) → leL [(0, .str s), (1, .int .i64 j)] σ → Q σ AHeap.emp := fun σ h hs => by
              subst h
              exact hQ _ _ _ ⟨by omega, by omega, by omega⟩ hs (AHeap.sub_refl _) (by omega)
            by_cases c4 : j < s.length
            · have g4 : ((j : Int) < (s.length : Int)) = True := by simp; omega
              rw [drop_cons c4, spn_cons] at j2
              cases l10 : (((s.getD j 0).toNat : Int) != 10) with
              | true =>
                rw [if_pos l10] at j2
                simp only [g4, wj, l10, decide_true, tb41_e, zz, zzN, ↓reduceIte, Nat.reduceEqDiff, Nat.reduceBEq, Int.reduceLT, Int.reduceLE, Int.reduceToNat, Int.reduceEq, Int.reduceAdd, Int.reduceSub, Int.reduceMul, Int.reduceNeg, Nat.reduceMul, Nat.reduceSub, Nat.reduceLeDiff, Nat.reduceLT, Int.reduceGT, Int.reduceBEq, Int.reduceBNe, reduceCtorEq, Nat.reduceAdd, Ins.map, Fr.ev, argFr, argE, binEv, intEv, shEv, strEv, unEv, Fr.mark, evRes, tup, lenD, lookupD, loadD, partD, storeD, cellsD, cellOk, setAt, objNe, objSame, eqEv, readEv, buildD, buildRows, rowsOf, elemsOf]
                refine fun _ => ⟨by omega, hQ' (j + 1) _ _ ⟨by omega, by omega, by omega⟩ ?_ (AHeap.sub_refl _) (by omega)⟩
                simp only [zz, zzN, ↓reduceIte, Nat.reduceEqDiff, Nat.reduceBEq, Int.reduceLT, Int.reduceLE, Int.reduceToNat, Int.reduceEq, Int.reduceAdd, Int.reduceSub, Int.reduceMul, Int.reduceNeg, Nat.reduceMul, Nat.reduceSub, Nat.reduceLeDiff, Nat.reduceLT, Int.reduceGT, Int.reduceBEq, Int.reduceBNe, reduceCtorEq, Nat.reduceAdd, Ins.map, Fr.ev, argFr, argE, binEv, intEv, shEv, strEv, unEv, Fr.mark, evRes, tup, lenD, lookupD, loadD, partD, storeD, cellsD, cellOk, setAt, objNe, objSame, eqEv, readEv, buildD, buildRows, rowsOf, elemsOf]
              | false =>
                rw [if_neg (by rw [l10]; exact Bool.false_ne_true)] at j2
                simp only [g4, wj, l10, decide_true, tb41_e, zz, zzN, ↓reduceIte, Nat.reduceEqDiff, Nat.reduceBEq, Int.reduceLT, Int.reduceLE, Int.reduceToNat, Int.reduceEq, Int.reduceAdd, Int.reduceSub, Int.reduceMul, Int.reduceNeg, Nat.reduceMul, Nat.reduceSub, Nat.reduceLeDiff, Nat.reduceLT, Int.reduceGT, Int.reduceBEq, Int.reduceBNe, reduceCtorEq, Nat.reduceAdd, Ins.map, Fr.ev, argFr, argE, binEv, intEv, shEv, strEv, unEv, Fr.mark, evRes, tup, lenD, lookupD, loadD, partD, storeD, cellsD, cellOk, setAt, objNe, objSame, eqEv, readEv, buildD, buildRows, rowsOf, elemsOf]
                refine fun _ => ⟨by omega, fin _ (by omega) ?_⟩
                simp only [zz, zzN, ↓reduceIte, Nat.reduceEqDiff, Nat.reduceBEq, Int.reduceLT, Int.reduceLE, Int.reduceToNat, Int.reduceEq, Int.reduceAdd, Int.reduceSub, Int.reduceMul, Int.reduceNeg, Nat.reduceMul, Nat.reduceSub, Nat.reduceLeDiff, Nat.reduceLT, Int.reduceGT, Int.reduceBEq, Int.reduceBNe, reduceCtorEq, Nat.reduceAdd, Ins.map, Fr.ev, argFr, argE, binEv, intEv, shEv, strEv, unEv, Fr.mark, evRes, tup, lenD, lookupD, loadD, partD, storeD, cellsD, cellOk, setAt, objNe, objSame, eqEv, readEv, buildD, buildRows, rowsOf, elemsOf]
            · have g4 : ((j : Int) < (s.length : Int)) = False := by simp; omega
              have e : s.drop j = [] := List.drop_of_length_le (by omega)
              rw [e] at j2
              simp only [spn, List.takeWhile_nil, List.length_nil] at j2
              simp only [g4, wj, decide_false, tb41_e, zz, zzN, ↓reduceIte, Nat.reduceEqDiff, Nat.reduceBEq, Int.reduceLT, Int.reduceLE, Int.reduceToNat, Int.reduceEq, Int.reduceAdd, Int.reduceSub, Int.reduceMul, Int.reduceNeg, Nat.reduceMul, Nat.reduceSub, Nat.reduceLeDiff, Nat.reduceLT, Int.reduceGT, Int.reduceBEq, Int.reduceBNe, reduceCtorEq, Nat.reduceAdd, Ins.map, Fr.ev, argFr, argE, binEv, intEv, shEv, strEv, unEv, Fr.mark, evRes, tup, lenD, lookupD, loadD, partD, storeD, cellsD, cellOk, setAt, objNe, objSame, eqEv, readEv, buildD, buildRows, rowsOf, elemsOf]
              refine fun _ => fin _ (by simp only [spn]; omega) ?_
              simp only [zz, zzN, ↓reduceIte, Nat.reduceEqDiff, Nat.reduceBEq, Int.reduceLT, Int.reduceLE, Int.reduceToNat, Int.reduceEq, Int.reduceAdd, Int.reduceSub, Int.reduceMul, Int.reduceNeg, Nat.reduceMul, Nat.reduceSub, Nat.reduceLeDiff, Nat.reduceLT, Int.reduceGT, Int.reduceBEq, Int.reduceBNe, reduceCtorEq, Nat.reduceAdd, Ins.map, Fr.ev, argFr, argE, binEv, intEv, shEv, strEv, unEv, Fr.mark, evRes, tup, lenD, lookupD, loadD, partD, storeD, cellsD, cellOk, setAt, objNe, objSame, eqEv, readEv, buildD, buildRows, rowsOf, elemsOf]
      · have g3 : (((i + 1 : Nat) : Int) ≥ (s.length : Int)) = True := by simp; omega
        simp only [decide_eq_false c3, Bool.false_and, Bool.and_false, Bool.false_eq_true, if_false] at i2
        simp only [g1, g3, wi, h32, h9, h10, n47, decide_true, decide_false, tb41_e, zz, zzN, ↓reduceIte, Nat.reduceEqDiff, Nat.reduceBEq, Int.reduceLT, Int.reduceLE, Int.reduceToNat, Int.reduceEq, Int.reduceAdd, Int.reduceSub, Int.reduceMul, Int.reduceNeg, Nat.reduceMul, Nat.reduceSub, Nat.reduceLeDiff, Nat.reduceLT, Int.reduceGT, Int.reduceBEq, Int.reduceBNe, reduceCtorEq, Nat.reduceAdd, Ins.map, Fr.ev, argFr, argE, binEv, intEv, shEv, strEv, unEv, Fr.mark, evRes, tup, lenD, lookupD, loadD, partD, storeD, cellsD, cellOk, setAt, objNe, objSame, eqEv, readEv, buildD, buildRows, rowsOf, elemsOf]
        omega
    · have g1 : ((i : Int) < (s.length : Int)) = False := by simp; omega
      have e : s.drop i = [] := List.drop_of_length_le (by omega)
      rw [e, blankL_nil] at i2
      simp only [g1, decide_false, tb41_e, zz, zzN, ↓reduceIte, Nat.reduceEqDiff, Nat.reduceBEq, Int.reduceLT, Int.reduceLE, Int.reduceToNat, Int.reduceEq, Int.reduceAdd, Int.reduceSub, Int.reduceMul, Int.reduceNeg, Nat.reduceMul, Nat.reduceSub, Nat.reduceLeDiff, Nat.reduceLT, Int.reduceGT, Int.reduceBEq, Int.reduceBNe, reduceCtorEq, Nat.reduceAdd, Ins.map, Fr.ev, argFr, argE, binEv, intEv, shEv, strEv, unEv, Fr.mark, evRes, tup, lenD, lookupD, loadD, partD, storeD, cellsD, cellOk, setAt, objNe, objSame, eqEv, readEv, buildD, buildRows, rowsOf, elemsOf]
      exact fun _ => .inl (by omega)
theorem skip_c' (s : List UInt8) (a : Int) (h : 0 ≤ a ∧ a ≤ s.length ∧ s.length ≤ 1000000) : PCall Try.prog 52 [.str s, .int .i64 a] (.int .i64 (a + blankL (s.drop a.toNat))) := by
  have := skip_c s a.toNat (by omega) h.2.2
  rwa [Int.toNat_of_nonneg h.1, Int.natCast_add, Int.toNat_of_nonneg h.1] at this
def q52 : List D → Option D
  | [.str s, .int .i64 a] => if 0 ≤ a ∧ a ≤ s.length ∧ s.length ≤ 1000000 then some (.int .i64 (a + blankL (s.drop a.toNat))) else none
  | _ => none
theorem q52_ok (args : List D) (d : D) (h : q52 args = some d) : PCall Try.prog 52 args d := by
  unfold q52 at h
  split at h
  · split at h
    · cases h; exact skip_c' _ _ (by assumption)
    · cases h
  · cases h

def tb52 : Tab := tb41.addQ 52 q52
theorem tb52_q (g : FuncId) (args : List D) : tb52.q g args = if g = 52 then q52 args else tb41.q g args := rfl
theorem tb52_a : tb52.a = tb41.a := rfl
theorem tb52_c : tb52.c = tb41.c := rfl
theorem tb52_ok : tb52.ok Try.prog := Tab.addQ_ok tb41_ok q52_ok
theorem tb52_e : type_of% (And.intro (And.intro @tb52_q (And.intro @tb52_a @tb52_c)) @tb41_e) := (And.intro (And.intro @tb52_q (And.intro @tb52_a @tb52_c)) @tb41_e)


theorem whole_ref {n a sl : Nat} {B B48 : Bool} (h : a + n ≤ sl) (hn : 0 < n) :
    if (n : Int) > 1 then
      (a : Int) < (sl : Int) ∧ if B48 = true then (0 : Int) = (if (!(decide (1 < n) && B48 || decide (19 < n)) && (decide (n < 19) || B)) = true then 2 else 0)
        else if (n : Int) > 19 then (0 : Int) = (if (!(decide (1 < n) && B48 || decide (19 < n)) && (decide (n < 19) || B)) = true then 2 else 0)
        else if ((n : Int) == 19) = true then ((a : Int) ≤ ((a + n : Nat) : Int) ∧ ((a + n : Nat) : Int) ≤ (sl : Int)) ∧ (if (!B) = true then (0 : Int) = (if (!(decide (1 < n) && B48 || decide (19 < n)) && (decide (n < 19) || B)) = true then 2 else 0) else (2 : Int) = (if (!(decide (1 < n) && B48 || decide (19 < n)) && (decide (n < 19) || B)) = true then 2 else 0))
        else (2 : Int) = (if (!(decide (1 < n) && B48 || decide (19 < n)) && (decide (n < 19) || B)) = true then 2 else 0)
    else if (n : Int) > 19 then (0 : Int) = (if (!(decide (1 < n) && B48 || decide (19 < n)) && (decide (n < 19) || B)) = true then 2 else 0)
      else if ((n : Int) == 19) = true then ((a : Int) ≤ ((a + n : Nat) : Int) ∧ ((a + n : Nat) : Int) ≤ (sl : Int)) ∧ (if (!B) = true then (0 : Int) = (if (!(decide (1 < n) && B48 || decide (19 < n)) && (decide (n < 19) || B)) = true then 2 else 0) else (2 : Int) = (if (!(decide (1 < n) && B48 || decide (19 < n)) && (decide (n < 19) || B)) = true then 2 else 0))
      else (2 : Int) = (if (!(decide (1 < n) && B48 || decide (19 < n)) && (decide (n < 19) || B)) = true then 2 else 0) := by
  cases B <;> cases B48 <;> (repeat' first | split | refine And.intro (by omega) ?_) <;> simp_all <;> omega
/-- A place behind a run of digits. -/
theorem loop_digits {s : List UInt8} {a j : Nat} (h : j + spn isDigit (s.drop j) = a + spn isDigit (s.drop a)) (hj : j < s.length) (hd : isDigit ((s.getD j 0).toNat : Int) = true) : (j + 1) + spn isDigit (s.drop (j + 1)) = a + spn isDigit (s.drop a) := by
  rw [drop_cons hj, spn_cons, if_pos hd] at h; omega
theorem loop_digits_end {s : List UInt8} {a j : Nat} (h : j + spn isDigit (s.drop j) = a + spn isDigit (s.drop a)) (hj : j < s.length) (hd : isDigit ((s.getD j 0).toNat : Int) = false) : j = a + spn isDigit (s.drop a) := by
  rw [drop_cons hj, spn_cons, if_neg (by rw [hd]; exact Bool.false_ne_true)] at h; omega
theorem loop_digits_len {s : List UInt8} {a j : Nat} (h : j + spn isDigit (s.drop j) = a + spn isDigit (s.drop a)) (hj : ¬ j < s.length) : j = a + spn isDigit (s.drop a) := by
  have e : s.drop j = [] := List.drop_of_length_le (by omega)
  rw [e] at h; simp only [spn, List.takeWhile_nil, List.length_nil] at h ⊢; omega

/-- The document's number at the front: its kind (0: it may not be), its bytes. -/
def rNumL (l : List UInt8) : Int × Nat := (if (numL l).2.2 = true then (numL l).1 else 0, (numL l).2.1.length)
set_option maxHeartbeats 1000000 in
theorem rNumber_c (s : List UInt8) (a : Nat) (h1 : a < s.length) (h2 : s.length ≤ 100000) (h3 : isDigit ((s.getD a 0).toNat : Int) = true) : PCall Try.prog 54 [.str s, .int .i64 a] (.tuple [.int .i64 (rNumL (s.drop a)).1, .int .i64 ((a + (rNumL (s.drop a)).2 : Nat) : Int)]) := by
  refine PCall.run tb52_ok st54 (by simp) fun E => ?_
  have hl := spn_le isDigit (s.drop a)
  rw [List.length_drop] at hl
  have e0 : ∀ n, (s.drop a).getD n 0 = s.getD (a + n) 0 := fun n => by simp [List.getD]
  have e1 : ∀ n, (s.drop a).drop (n + 1) = s.drop (a + n + 1) := fun n => by rw [List.drop_drop]; rfl
  have e2 : (s.drop a).length = s.length - a := by simp
  have hp : 0 < spn isDigit (s.drop a) := spn_pos (by simp; omega) (by rw [e0]; exact h3)
  obtain ⟨n, hn⟩ : ∃ n, n = spn isDigit (s.drop a) := ⟨_, rfl⟩
  rw [← hn] at hl hp
  simp only [rNumL, numL, ← hn, e0, e1, e2]
  simp only [s54, q53, tb52_e, Int.natCast_nonneg, Nat.le_refl, Int.le_refl, List.take_succ_cons, List.take_zero, decide_true, decide_false, Bool.and_false, Bool.false_and, zz, zzN, ↓reduceIte, Nat.reduceEqDiff, Nat.reduceBEq, Int.reduceLT, Int.reduceLE, Int.reduceToNat, Int.reduceEq, Int.reduceAdd, Int.reduceSub, Int.reduceMul, Int.reduceNeg, Nat.reduceMul, Nat.reduceSub, Nat.reduceLeDiff, Nat.reduceLT, Int.reduceGT, Int.reduceBEq, Int.reduceBNe, reduceCtorEq, Nat.reduceAdd, Ins.map, Fr.ev, argFr, argE, binEv, intEv, shEv, strEv, unEv, Fr.mark, evRes, tup, lenD, lookupD, loadD, partD, storeD, cellsD, cellOk, setAt, objNe, objSame, eqEv, readEv, buildD, buildRows, rowsOf, elemsOf]
  refine run_loop (X := Nat) (fun j => [(0, .str s), (1, .int .i64 a), (6, .int .i64 j)]) (fun _ => AHeap.emp) (fun j => s.length - j)
    (fun j => a ≤ j ∧ j ≤ s.length ∧ j + spn isDigit (s.drop j) = a + spn isDigit (s.drop a)) a (by simp; omega) ?_ (AHeap.sub_refl _) ?_
  · simp only [Int.natCast_nonneg, Nat.le_refl, Int.le_refl, List.take_succ_cons, List.take_zero, decide_true, decide_false, Bool.and_false, Bool.false_and, zz, zzN, ↓reduceIte, Nat.reduceEqDiff, Nat.reduceBEq, Int.reduceLT, Int.reduceLE, Int.reduceToNat, Int.reduceEq, Int.reduceAdd, Int.reduceSub, Int.reduceMul, Int.reduceNeg, Nat.reduceMul, Nat.reduceSub, Nat.reduceLeDiff, Nat.reduceLT, Int.reduceGT, Int.reduceBEq, Int.reduceBNe, reduceCtorEq, Nat.reduceAdd, Ins.map, Fr.ev, argFr, argE, binEv, intEv, shEv, strEv, unEv, Fr.mark, evRes, tup, lenD, lookupD, loadD, partD, storeD, cellsD, cellOk, setAt, objNe, objSame, eqEv, readEv, buildD, buildRows, rowsOf, elemsOf]
  rintro j Q ⟨j0, j1, j2⟩ hQ
  have wj : IntKind.i64.wrap ((j : Int) + 1) = ((j + 1 : Nat) : Int) := wrap_succ (by omega)
  by_cases go : j < s.length ∧ isDigit ((s.getD j 0).toNat : Int) = true
  · obtain ⟨c1, c2⟩ := go
    have g1 : ((j : Int) < (s.length : Int)) = True := by simp; omega
    simp only [g1, wj, c2, q53, tb52_e, Int.natCast_nonneg, Nat.le_refl, Int.le_refl, List.take_succ_cons, List.take_zero, decide_true, decide_false, Bool.and_false, Bool.false_and, zz, zzN, ↓reduceIte, Nat.reduceEqDiff, Nat.reduceBEq, Int.reduceLT, Int.reduceLE, Int.reduceToNat, Int.reduceEq, Int.reduceAdd, Int.reduceSub, Int.reduceMul, Int.reduceNeg, Nat.reduceMul, Nat.reduceSub, Nat.reduceLeDiff, Nat.reduceLT, Int.reduceGT, Int.reduceBEq, Int.reduceBNe, reduceCtorEq, Nat.reduceAdd, Ins.map, Fr.ev, argFr, argE, binEv, intEv, shEv, strEv, unEv, Fr.mark, evRes, tup, lenD, lookupD, loadD, partD, storeD, cellsD, cellOk, setAt, objNe, objSame, eqEv, readEv, buildD, buildRows, rowsOf, elemsOf]
    refine fun _ => hQ (j + 1) _ _ ⟨by omega, by omega, loop_digits j2 c1 c2⟩ ?_ (AHeap.sub_refl _) (by omega)
    simp only [Int.natCast_nonneg, Nat.le_refl, Int.le_refl, List.take_succ_cons, List.take_zero, decide_true, decide_false, Bool.and_false, Bool.false_and, zz, zzN, ↓reduceIte, Nat.reduceEqDiff, Nat.reduceBEq, Int.reduceLT, Int.reduceLE, Int.reduceToNat, Int.reduceEq, Int.reduceAdd, Int.reduceSub, Int.reduceMul, Int.reduceNeg, Nat.reduceMul, Nat.reduceSub, Nat.reduceLeDiff, Nat.reduceLT, Int.reduceGT, Int.reduceBEq, Int.reduceBNe, reduceCtorEq, Nat.reduceAdd, Ins.map, Fr.ev, argFr, argE, binEv, intEv, shEv, strEv, unEv, Fr.mark, evRes, tup, lenD, lookupD, loadD, partD, storeD, cellsD, cellOk, setAt, objNe, objSame, eqEv, readEv, buildD, buildRows, rowsOf, elemsOf]
  have hj : j = a + n := by
    rw [hn]
    by_cases c1 : j < s.length
    · exact loop_digits_end j2 c1 (by simpa [c1] using go)
    · exact loop_digits_len j2 c1
  subst hj
  have ws : IntKind.i64.wrap (((a + n : Nat) : Int) - (a : Int)) = (n : Int) := by rw [wrap_i64 (by omega) (by omega)]; omega
  have tn : (s.drop a).take (a + n - a) = (s.drop a).take n := by rw [Nat.add_sub_cancel_left]
  have ltn : ((s.drop a).take n).length = n := by simp; omega
  have z0 : (((s.drop a).take n).getD 0 0) = s.getD a 0 := by
    simp only [List.getD_eq_getElem?_getD, List.getElem?_take, if_pos hp, List.getElem?_drop, Nat.add_zero]
  have wv : wholeL ((s.drop a).take n) = (!(decide (1 < n) && ((s.getD a 0).toNat : Int) == 48 || decide (19 < n)) && (decide (n < 19) || (Op.bytesLess ((s.drop a).take n) mxL || (s.drop a).take n == mxL))) := by
    simp only [wholeL, ltn, z0]
  simp only [mxL] at wv
  by_cases c1 : a + n < s.length
  · have g1 : (((a + n : Nat) : Int) < (s.length : Int)) = True := by simp; omega
    have c2 : isDigit ((s.getD (a + n) 0).toNat : Int) = false := by simpa [c1] using go
    have g4' : (n < s.length - a) = True := by simp; omega
    cases c3 : (((s.getD (a + n) 0).toNat : Int) == 46) with
    | true =>
      simp (config := {maxSteps := 1000000}) only [g1, g4', wj, c2, c3, q53, tb52_e, Int.natCast_nonneg, Nat.le_refl, Int.le_refl, List.take_succ_cons, List.take_zero, decide_true, decide_false, Bool.and_false, Bool.false_and, zz, zzN, ↓reduceIte, Nat.reduceEqDiff, Nat.reduceBEq, Int.reduceLT, Int.reduceLE, Int.reduceToNat, Int.reduceEq, Int.reduceAdd, Int.reduceSub, Int.reduceMul, Int.reduceNeg, Nat.reduceMul, Nat.reduceSub, Nat.reduceLeDiff, Nat.reduceLT, Int.reduceGT, Int.reduceBEq, Int.reduceBNe, reduceCtorEq, Nat.reduceAdd, Ins.map, Fr.ev, argFr, argE, binEv, intEv, shEv, strEv, unEv, Fr.mark, evRes, tup, lenD, lookupD, loadD, partD, storeD, cellsD, cellOk, setAt, objNe, objSame, eqEv, readEv, buildD, buildRows, rowsOf, elemsOf]
      obtain ⟨m, hm⟩ : ∃ m, m = spn isDigit (s.drop (a + n + 1)) := ⟨_, rfl⟩
      have hl2 := spn_le isDigit (s.drop (a + n + 1))
      rw [List.length_drop, ← hm] at hl2
      have lt2 : ((s.drop a).take (n + 1 + m)).length = n + 1 + m := by simp; omega
      rw [← hm, lt2]
      intro _ _
      refine run_loop (X := Nat) (fun j => [(0, .str s), (1, .int .i64 a), (6, .int .i64 (a + n : Nat)), (7, .int .i64 j)]) (fun _ => AHeap.emp) (fun j => s.length - j)
        (fun j => a + n + 1 ≤ j ∧ j ≤ s.length ∧ j + spn isDigit (s.drop j) = a + n + 1 + spn isDigit (s.drop (a + n + 1))) (a + n + 1) (by simp; omega) ?_ (AHeap.sub_refl _) ?_
      · simp only [Int.natCast_nonneg, Nat.le_refl, Int.le_refl, List.take_succ_cons, List.take_zero, decide_true, decide_false, Bool.and_false, Bool.false_and, zz, zzN, ↓reduceIte, Nat.reduceEqDiff, Nat.reduceBEq, Int.reduceLT, Int.reduceLE, Int.reduceToNat, Int.reduceEq, Int.reduceAdd, Int.reduceSub, Int.reduceMul, Int.reduceNeg, Nat.reduceMul, Nat.reduceSub, Nat.reduceLeDiff, Nat.reduceLT, Int.reduceGT, Int.reduceBEq, Int.reduceBNe, reduceCtorEq, Nat.reduceAdd, Ins.map, Fr.ev, argFr, argE, binEv, intEv, shEv, strEv, unEv, Fr.mark, evRes, tup, lenD, lookupD, loadD, partD, storeD, cellsD, cellOk, setAt, objNe, objSame, eqEv, readEv, buildD, buildRows, rowsOf, elemsOf]
      rintro j Q2 ⟨k0, k1, k2⟩ hQ2
      have wj2 : IntKind.i64.wrap ((j : Int) + 1) = ((j + 1 : Nat) : Int) := wrap_succ (by omega)
      by_cases go2 : j < s.length ∧ isDigit ((s.getD j 0).toNat : Int) = true
      · obtain ⟨d1, d2⟩ := go2
        have g5 : ((j : Int) < (s.length : Int)) = True := by simp; omega
        simp only [g5, wj2, d2, q53, tb52_e, Int.natCast_nonneg, Nat.le_refl, Int.le_refl, List.take_succ_cons, List.take_zero, decide_true, decide_false, Bool.and_false, Bool.false_and, zz, zzN, ↓reduceIte, Nat.reduceEqDiff, Nat.reduceBEq, Int.reduceLT, Int.reduceLE, Int.reduceToNat, Int.reduceEq, Int.reduceAdd, Int.reduceSub, Int.reduceMul, Int.reduceNeg, Nat.reduceMul, Nat.reduceSub, Nat.reduceLeDiff, Nat.reduceLT, Int.reduceGT, Int.reduceBEq, Int.reduceBNe, reduceCtorEq, Nat.reduceAdd, Ins.map, Fr.ev, argFr, argE, binEv, intEv, shEv, strEv, unEv, Fr.mark, evRes, tup, lenD, lookupD, loadD, partD, storeD, cellsD, cellOk, setAt, objNe, objSame, eqEv, readEv, buildD, buildRows, rowsOf, elemsOf]
        refine fun _ => hQ2 (j + 1) _ _ ⟨by omega, by omega, loop_digits k2 d1 d2⟩ ?_ (AHeap.sub_refl _) (by omega)
        simp only [Int.natCast_nonneg, Nat.le_refl, Int.le_refl, List.take_succ_cons, List.take_zero, decide_true, decide_false, Bool.and_false, Bool.false_and, zz, zzN, ↓reduceIte, Nat.reduceEqDiff, Nat.reduceBEq, Int.reduceLT, Int.reduceLE, Int.reduceToNat, Int.reduceEq, Int.reduceAdd, Int.reduceSub, Int.reduceMul, Int.reduceNeg, Nat.reduceMul, Nat.reduceSub, Nat.reduceLeDiff, Nat.reduceLT, Int.reduceGT, Int.reduceBEq, Int.reduceBNe, reduceCtorEq, Nat.reduceAdd, Ins.map, Fr.ev, argFr, argE, binEv, intEv, shEv, strEv, unEv, Fr.mark, evRes, tup, lenD, lookupD, loadD, partD, storeD, cellsD, cellOk, setAt, objNe, objSame, eqEv, readEv, buildD, buildRows, rowsOf, elemsOf]
      have hj2 : j = a + n + 1 + m := by
        rw [hm]
        by_cases d1 : j < s.length
        · exact loop_digits_end k2 d1 (by simpa [d1] using go2)
        · exact loop_digits_len k2 d1
      subst hj2
      have ea : a + (n + 1 + m) = a + n + 1 + m := by omega
      have w5 : IntKind.i64.wrap (((a + n + 1 + m : Nat) : Int) - 1) = ((a + n + m : Nat) : Int) := by rw [wrap_i64 (by omega) (by omega)]; omega
      have w6 : IntKind.i64.wrap (((a + n + m : Nat) : Int) - (a : Int)) = ((n + m : Nat) : Int) := by rw [wrap_i64 (by omega) (by omega)]; omega
      have fin : if (((a + n + 1 + m : Nat) : Int) == ((a + n + 1 : Nat) : Int)) = true then (0 : Int) = (if (!(decide (m = 0) || decide (15 < n + m))) = true then 3 else 0) else if ((n + m : Nat) : Int) > 15 then (0 : Int) = (if (!(decide (m = 0) || decide (15 < n + m))) = true then 3 else 0) else (3 : Int) = (if (!(decide (m = 0) || decide (15 < n + m))) = true then 3 else 0) := by
        clear hQ hQ2 wv
        (repeat' split) <;> simp_all <;> omega
      by_cases d1 : a + n + 1 + m < s.length
      · have g5 : (((a + n + 1 + m : Nat) : Int) < (s.length : Int)) = True := by simp; omega
        have d2 : isDigit ((s.getD (a + n + 1 + m) 0).toNat : Int) = false := by simpa [d1] using go2
        simp (config := {maxSteps := 1000000}) only [g5, wj, wj2, w5, w6, d2, q53, ea, tb52_e, Int.natCast_nonneg, Nat.le_refl, Int.le_refl, List.take_succ_cons, List.take_zero, decide_true, decide_false, Bool.and_false, Bool.false_and, zz, zzN, ↓reduceIte, Nat.reduceEqDiff, Nat.reduceBEq, Int.reduceLT, Int.reduceLE, Int.reduceToNat, Int.reduceEq, Int.reduceAdd, Int.reduceSub, Int.reduceMul, Int.reduceNeg, Nat.reduceMul, Nat.reduceSub, Nat.reduceLeDiff, Nat.reduceLT, Int.reduceGT, Int.reduceBEq, Int.reduceBNe, reduceCtorEq, Nat.reduceAdd, Ins.map, Fr.ev, argFr, argE, binEv, intEv, shEv, strEv, unEv, Fr.mark, evRes, tup, lenD, lookupD, loadD, partD, storeD, cellsD, cellOk, setAt, objNe, objSame, eqEv, readEv, buildD, buildRows, rowsOf, elemsOf]
        simp only [or_self]
        exact fun _ => fin
      · have g5 : (((a + n + 1 + m : Nat) : Int) < (s.length : Int)) = False := by simp; omega
        simp (config := {maxSteps := 1000000}) only [g5, wj, wj2, w5, w6, q53, ea, tb52_e, Int.natCast_nonneg, Nat.le_refl, Int.le_refl, List.take_succ_cons, List.take_zero, decide_true, decide_false, Bool.and_false, Bool.false_and, zz, zzN, ↓reduceIte, Nat.reduceEqDiff, Nat.reduceBEq, Int.reduceLT, Int.reduceLE, Int.reduceToNat, Int.reduceEq, Int.reduceAdd, Int.reduceSub, Int.reduceMul, Int.reduceNeg, Nat.reduceMul, Nat.reduceSub, Nat.reduceLeDiff, Nat.reduceLT, Int.reduceGT, Int.reduceBEq, Int.reduceBNe, reduceCtorEq, Nat.reduceAdd, Ins.map, Fr.ev, argFr, argE, binEv, intEv, shEv, strEv, unEv, Fr.mark, evRes, tup, lenD, lookupD, loadD, partD, storeD, cellsD, cellOk, setAt, objNe, objSame, eqEv, readEv, buildD, buildRows, rowsOf, elemsOf]
        simp only [or_self]
        exact fun _ => fin
    | false =>
      simp (config := {maxSteps := 1000000}) only [g1, g4', wj, ws, tn, ltn, c2, c3, q53, strEv, tb52_e, Int.natCast_nonneg, Nat.le_refl, Int.le_refl, List.take_succ_cons, List.take_zero, decide_true, decide_false, Bool.and_false, Bool.false_and, zz, zzN, ↓reduceIte, Nat.reduceEqDiff, Nat.reduceBEq, Int.reduceLT, Int.reduceLE, Int.reduceToNat, Int.reduceEq, Int.reduceAdd, Int.reduceSub, Int.reduceMul, Int.reduceNeg, Nat.reduceMul, Nat.reduceSub, Nat.reduceLeDiff, Nat.reduceLT, Int.reduceGT, Int.reduceBEq, Int.reduceBNe, reduceCtorEq, Nat.reduceAdd, Ins.map, Fr.ev, argFr, argE, binEv, intEv, shEv, strEv, unEv, Fr.mark, evRes, tup, lenD, lookupD, loadD, partD, storeD, cellsD, cellOk, setAt, objNe, objSame, eqEv, readEv, buildD, buildRows, rowsOf, elemsOf]
      simp only [or_self, wv]
      refine fun _ _ => ?_
      exact whole_ref (by omega) (by omega)
  · have g1 : (((a + n : Nat) : Int) < (s.length : Int)) = False := by simp; omega
    have g4' : (n < s.length - a) = False := by simp; omega
    simp (config := {maxSteps := 1000000}) only [g1, g4', wj, ws, tn, ltn, q53, strEv, tb52_e, Int.natCast_nonneg, Nat.le_refl, Int.le_refl, List.take_succ_cons, List.take_zero, decide_true, decide_false, Bool.and_false, Bool.false_and, zz, zzN, ↓reduceIte, Nat.reduceEqDiff, Nat.reduceBEq, Int.reduceLT, Int.reduceLE, Int.reduceToNat, Int.reduceEq, Int.reduceAdd, Int.reduceSub, Int.reduceMul, Int.reduceNeg, Nat.reduceMul, Nat.reduceSub, Nat.reduceLeDiff, Nat.reduceLT, Int.reduceGT, Int.reduceBEq, Int.reduceBNe, reduceCtorEq, Nat.reduceAdd, Ins.map, Fr.ev, argFr, argE, binEv, intEv, shEv, strEv, unEv, Fr.mark, evRes, tup, lenD, lookupD, loadD, partD, storeD, cellsD, cellOk, setAt, objNe, objSame, eqEv, readEv, buildD, buildRows, rowsOf, elemsOf]
    simp only [or_self, wv]
    refine fun _ _ => ?_
    exact whole_ref (by omega) (by omega)
theorem rNumber_c' (s : List UInt8) (a : Int) (h : 0 ≤ a ∧ a < s.length ∧ s.length ≤ 100000 ∧ isDigit ((s.getD a.toNat 0).toNat : Int) = true) : PCall Try.prog 54 [.str s, .int .i64 a] (.tuple [.int .i64 (rNumL (s.drop a.toNat)).1, .int .i64 (a + (rNumL (s.drop a.toNat)).2)]) := by
  have := rNumber_c s a.toNat (by omega) h.2.2.1 h.2.2.2
  rwa [Int.toNat_of_nonneg h.1, Int.natCast_add, Int.toNat_of_nonneg h.1] at this
def q54 : List D → Option D
  | [.str s, .int .i64 a] => if 0 ≤ a ∧ a < s.length ∧ s.length ≤ 100000 ∧ isDigit ((s.getD a.toNat 0).toNat : Int) = true then some (.tuple [.int .i64 (rNumL (s.drop a.toNat)).1, .int .i64 (a + (rNumL (s.drop a.toNat)).2)]) else none
  | _ => none
theorem q54_ok (args : List D) (d : D) (h : q54 args = some d) : PCall Try.prog 54 args d := by
  unfold q54 at h
  split at h
  · split at h
    · cases h; exact rNumber_c' _ _ (by assumption)
    · cases h
  · cases h

def tb54 : Tab := tb52.addQ 54 q54
theorem tb54_q (g : FuncId) (args : List D) : tb54.q g args = if g = 54 then q54 args else tb52.q g args := rfl
theorem tb54_a : tb54.a = tb52.a := rfl
theorem tb54_c : tb54.c = tb52.c := rfl
theorem tb54_ok : tb54.ok Try.prog := Tab.addQ_ok tb52_ok q54_ok
theorem tb54_e : type_of% (And.intro (And.intro @tb54_q (And.intro @tb54_a @tb54_c)) @tb52_e) := (And.intro (And.intro @tb54_q (And.intro @tb54_a @tb54_c)) @tb52_e)

end Go.Proofs.Ytaimobfakcompaa.Zz
