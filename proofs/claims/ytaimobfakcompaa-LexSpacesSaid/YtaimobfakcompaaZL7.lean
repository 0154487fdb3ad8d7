/- The laws of words and of names. -/
import Derived.Test.YtaimobfakcompaaZL6
namespace Go.Proofs.Ytaimobfakcompaa.Zz
set_option linter.unusedVariables false
set_option linter.unusedSimpArgs false
set_option maxRecDepth 20000
def p25 : Plan := ⟨⟨[], [], [], [], [], []⟩, []⟩
/-- cupel/cupellaw09.awake (0 parameters, 0 captured) -/
def s25 : Stm :=
  .seq (.ops [⟨.mov (.c (.bool false)), (some 0), none, true⟩])
  (.seq (.ops [⟨.qcall (.f 23) [(.c (.str [97, 58, 61, 49, 46, 53, 32, 47, 47, 32, 120]))], (some 5), none, false⟩,
     ⟨.mov (.t 5), (some 4), none, true⟩,
     ⟨.extract (.t 4) 0, (some 6), none, true⟩,
     ⟨.extract (.t 4) 1, (some 7), none, true⟩,
     ⟨.extract (.t 4) 2, (some 8), none, true⟩,
     ⟨.mov (.t 6), (some 1), none, true⟩,
     ⟨.mov (.t 7), (some 2), none, true⟩,
     ⟨.mov (.t 8), (some 3), none, true⟩])
  (.seq (.ops [⟨.mov (.t 3), (some 9), none, true⟩,
     ⟨.bin .eql (.t 9) (.c (.int .i64 0)), (some 10), none, true⟩,
     ⟨.mov (.t 10), (some 11), none, true⟩,
     ⟨.mov (.t 2), (some 12), (some (11, true)), true⟩,
     ⟨.bin .eql (.t 12) (.c (.int .i64 0)), (some 13), (some (11, true)), true⟩,
     ⟨.pick (.t 11) (.t 13) (.c (.bool false)), (some 14), none, true⟩,
     ⟨.mov (.t 14), (some 15), none, true⟩,
     ⟨.mov (.t 1), (some 16), (some (15, true)), true⟩,
     ⟨.len .sl (.t 16), (some 17), (some (15, true)), false⟩,
     ⟨.bin .eql (.t 17) (.c (.int .i64 4)), (some 18), (some (15, true)), true⟩,
     ⟨.pick (.t 15) (.t 18) (.c (.bool false)), (some 19), none, true⟩,
     ⟨.mov (.t 19), (some 20), none, true⟩,
     ⟨.mov (.t 1), (some 21), (some (20, true)), true⟩,
     ⟨.indexAddrS 3 (.t 21) (.c (.int .i64 0)), (some 22), (some (20, true)), false⟩,
     ⟨.fieldAddr 0 (.t 22), (some 23), (some (20, true)), true⟩,
     ⟨.load none (.t 23), (some 24), (some (20, true)), false⟩,
     ⟨.bin .eql (.t 24) (.c (.int .i64 1)), (some 25), (some (20, true)), true⟩,
     ⟨.pick (.t 20) (.t 25) (.c (.bool false)), (some 26), none, true⟩,
     ⟨.mov (.t 26), (some 27), none, true⟩,
     ⟨.mov (.t 1), (some 28), (some (27, true)), true⟩,
     ⟨.indexAddrS 3 (.t 28) (.c (.int .i64 1)), (some 29), (some (27, true)), false⟩,
     ⟨.fieldAddr 1 (.t 29), (some 30), (some (27, true)), true⟩,
     ⟨.load none (.t 30), (some 31), (some (27, true)), false⟩,
     ⟨.bin .eql (.t 31) (.c (.str [58, 61])), (some 32), (some (27, true)), true⟩,
     ⟨.pick (.t 27) (.t 32) (.c (.bool false)), (some 33), none, true⟩,
     ⟨.mov (.t 33), (some 34), none, true⟩,
     ⟨.mov (.t 1), (some 35), (some (34, true)), true⟩,
     ⟨.indexAddrS 3 (.t 35) (.c (.int .i64 2)), (some 36), (some (34, true)), false⟩,
     ⟨.fieldAddr 0 (.t 36), (some 37), (some (34, true)), true⟩,
     ⟨.load none (.t 37), (some 38), (some (34, true)), false⟩,
     ⟨.bin .eql (.t 38) (.c (.int .i64 3)), (some 39), (some (34, true)), true⟩,
     ⟨.pick (.t 34) (.t 39) (.c (.bool false)), (some 40), none, true⟩,
     ⟨.mov (.t 40), (some 41), none, true⟩,
     ⟨.mov (.t 1), (some 42), (some (41, true)), true⟩,
     ⟨.indexAddrS 3 (.t 42) (.c (.int .i64 3)), (some 43), (some (41, true)), false⟩,
     ⟨.fieldAddr 0 (.t 43), (some 44), (some (41, true)), true⟩,
     ⟨.load none (.t 44), (some 45), (some (41, true)), false⟩,
     ⟨.bin .eql (.t 45) (.c (.int .i64 0)), (some 46), (some (41, true)), true⟩,
     ⟨.pick (.t 41) (.t 46) (.c (.bool false)), (some 47), none, true⟩,
     ⟨.mov (.t 47), (some 0), none, true⟩])
  (.ret)))
theorem st25 : stmOf Try.prog 25 p25 = some (s25, [.tmp 0], 48) := by kernel_rfl

def p6 : Plan := ⟨⟨[], [], [(8, 2), (8, 7), (8, 14), (8, 19), (8, 27), (8, 32)], [], [], []⟩, [(8, [0, 1, 2, 3, 4, 5, 6, 7, 8, 9, 10, 11, 12, 13, 14, 15, 16, 17, 18, 19, 20, 21, 22, 23, 24, 25, 26, 27, 28, 29, 30, 31, 32, 33, 34, 35, 36])]⟩
/-- cupel/cupellaw09.LexTokens (1 parameters, 0 captured) -/
def s6 : Stm :=
  .seq (.ops [⟨.mov (.c (.bool false)), (some 2), none, true⟩])
  (.seq (.ops [⟨.mov (.t 0), (some 11), none, true⟩,
     ⟨.qcall (.f 23) [(.t 11)], (some 12), none, false⟩,
     ⟨.mov (.t 12), (some 10), none, true⟩,
     ⟨.extract (.t 10) 0, (some 13), none, true⟩,
     ⟨.extract (.t 10) 1, (some 14), none, true⟩,
     ⟨.extract (.t 10) 2, (some 15), none, true⟩,
     ⟨.mov (.t 13), (some 3), none, true⟩,
     ⟨.mov (.t 14), (some 4), none, true⟩,
     ⟨.mov (.t 15), (some 5), none, true⟩])
  (.seq (.ops [⟨.mov (.t 0), (some 17), none, true⟩,
     ⟨.qcall (.f 24) [(.t 17)], (some 18), none, false⟩,
     ⟨.mov (.t 18), (some 16), none, true⟩,
     ⟨.extract (.t 16) 0, (some 19), none, true⟩,
     ⟨.extract (.t 16) 1, (some 20), none, true⟩,
     ⟨.extract (.t 16) 2, (some 21), none, true⟩,
     ⟨.mov (.t 19), (some 6), none, true⟩,
     ⟨.mov (.t 20), (some 7), none, true⟩,
     ⟨.mov (.t 21), (some 8), none, true⟩])
  (.seq (.seq (.ops [⟨.qcall (.f 25) [], (some 22), none, false⟩,
      ⟨.un .not (.t 22), (some 23), none, true⟩,
      ⟨.mov (.t 23), (some 24), none, true⟩,
      ⟨.mov (.t 5), (some 25), (some (24, false)), true⟩,
      ⟨.mov (.t 8), (some 26), (some (24, false)), true⟩,
      ⟨.bin .neq (.t 25) (.t 26), (some 27), (some (24, false)), true⟩,
      ⟨.pick (.t 24) (.c (.bool true)) (.t 27), (some 28), none, true⟩,
      ⟨.mov (.t 28), (some 29), none, true⟩,
      ⟨.mov (.t 4), (some 30), (some (29, false)), true⟩,
      ⟨.mov (.t 7), (some 31), (some (29, false)), true⟩,
      ⟨.bin .neq (.t 30) (.t 31), (some 32), (some (29, false)), true⟩,
      ⟨.pick (.t 29) (.c (.bool true)) (.t 32), (some 33), none, true⟩,
      ⟨.mov (.t 33), (some 34), none, true⟩,
      ⟨.mov (.t 3), (some 35), (some (34, false)), true⟩,
      ⟨.len .sl (.t 35), (some 36), (some (34, false)), false⟩,
      ⟨.mov (.t 6), (some 37), (some (34, false)), true⟩,
      ⟨.len .sl (.t 37), (some 38), (some (34, false)), false⟩,
      ⟨.bin .neq (.t 36) (.t 38), (some 39), (some (34, false)), true⟩,
      ⟨.pick (.t 34) (.c (.bool true)) (.t 39), (some 40), none, true⟩])
   (.cond (.t 40)
    (.seq (.ops [⟨.mov (.c (.bool false)), (some 2), none, true⟩])
     (.ret))
    (.skip)))
  (.seq (.seq (.ops [⟨.mov (.c (.int .i64 0)), (some 9), none, true⟩])
   (.block 0 (.loop (.seq (.seq (.ops [⟨.mov (.t 9), (some 41), none, true⟩,
         ⟨.mov (.t 6), (some 42), none, true⟩,
         ⟨.len .sl (.t 42), (some 43), none, false⟩,
         ⟨.bin .lss (.t 41) (.t 43), (some 44), none, true⟩])
      (.cond (.t 44)
       (.skip)
       (.exit 0)))
     (.seq (.block 1 (.seq (.ops [⟨.mov (.t 3), (some 47), none, true⟩,
          ⟨.mov (.t 9), (some 48), none, true⟩,
          ⟨.indexAddrS 3 (.t 47) (.t 48), (some 49), none, false⟩,
          ⟨.fieldAddr 0 (.t 49), (some 50), none, true⟩,
          ⟨.load none (.t 50), (some 51), none, false⟩,
          ⟨.mov (.t 6), (some 52), none, true⟩,
          ⟨.mov (.t 9), (some 53), none, true⟩,
          ⟨.indexAddrS 3 (.t 52) (.t 53), (some 54), none, false⟩,
          ⟨.fieldAddr 0 (.t 54), (some 55), none, true⟩,
          ⟨.load none (.t 55), (some 56), none, false⟩,
          ⟨.bin .neq (.t 51) (.t 56), (some 57), none, true⟩,
          ⟨.mov (.t 57), (some 58), none, true⟩,
          ⟨.mov (.t 3), (some 59), (some (58, false)), true⟩,
          ⟨.mov (.t 9), (some 60), (some (58, false)), true⟩,
          ⟨.indexAddrS 3 (.t 59) (.t 60), (some 61), (some (58, false)), false⟩,
          ⟨.fieldAddr 1 (.t 61), (some 62), (some (58, false)), true⟩,
          ⟨.load none (.t 62), (some 63), (some (58, false)), false⟩,
          ⟨.mov (.t 6), (some 64), (some (58, false)), true⟩,
          ⟨.mov (.t 9), (some 65), (some (58, false)), true⟩,
          ⟨.indexAddrS 3 (.t 64) (.t 65), (some 66), (some (58, false)), false⟩,
          ⟨.fieldAddr 1 (.t 66), (some 67), (some (58, false)), true⟩,
          ⟨.load none (.t 67), (some 68), (some (58, false)), false⟩,
          ⟨.bin .neq (.t 63) (.t 68), (some 69), (some (58, false)), true⟩,
          ⟨.pick (.t 58) (.c (.bool true)) (.t 69), (some 70), none, true⟩,
          ⟨.mov (.t 70), (some 71), none, true⟩,
          ⟨.mov (.t 3), (some 72), (some (71, false)), true⟩,
          ⟨.mov (.t 9), (some 73), (some (71, false)), true⟩,
          ⟨.indexAddrS 3 (.t 72) (.t 73), (some 74), (some (71, false)), false⟩,
          ⟨.fieldAddr 2 (.t 74), (some 75), (some (71, false)), true⟩,
          ⟨.load none (.t 75), (some 76), (some (71, false)), false⟩,
          ⟨.mov (.t 6), (some 77), (some (71, false)), true⟩,
          ⟨.mov (.t 9), (some 78), (some (71, false)), true⟩,
          ⟨.indexAddrS 3 (.t 77) (.t 78), (some 79), (some (71, false)), false⟩,
          ⟨.fieldAddr 2 (.t 79), (some 80), (some (71, false)), true⟩,
          ⟨.load none (.t 80), (some 81), (some (71, false)), false⟩,
          ⟨.bin .neq (.t 76) (.t 81), (some 82), (some (71, false)), true⟩,
          ⟨.pick (.t 71) (.c (.bool true)) (.t 82), (some 83), none, true⟩])
       (.cond (.t 83)
        (.seq (.ops [⟨.mov (.c (.bool false)), (some 2), none, true⟩])
         (.ret))
        (.skip))))
     (.ops [⟨.mov (.t 9), (some 45), none, true⟩,
       ⟨.bin .add (.t 45) (.c (.int .i64 1)), (some 46), none, true⟩,
       ⟨.mov (.t 46), (some 9), none, true⟩]))))))
  (.seq (.ops [⟨.mov (.c (.bool true)), (some 2), none, true⟩])
  (.ret))))))
theorem st6 : stmOf Try.prog 6 p6 = some (s6, [.tmp 2], 84) := by kernel_rfl

def p38 : Plan := ⟨⟨[], [], [], [], [], []⟩, []⟩
/-- cupel/lex.Name (1 parameters, 0 captured) -/
def s38 : Stm :=
  .seq (.ops [⟨.mov (.c (.bool false)), (some 2), none, true⟩])
  (.seq (.seq (.ops [⟨.mov (.t 0), (some 4), none, true⟩,
      ⟨.len .str (.t 4), (some 5), none, false⟩,
      ⟨.bin .lss (.t 5) (.c (.int .i64 1)), (some 6), none, true⟩,
      ⟨.mov (.t 6), (some 7), none, true⟩,
      ⟨.mov (.t 0), (some 8), (some (7, false)), true⟩,
      ⟨.len .str (.t 8), (some 9), (some (7, false)), false⟩,
      ⟨.bin .gtr (.t 9) (.c (.int .i64 16)), (some 10), (some (7, false)), true⟩,
      ⟨.pick (.t 7) (.c (.bool true)) (.t 10), (some 11), none, true⟩,
      ⟨.mov (.t 11), (some 12), none, true⟩,
      ⟨.mov (.t 0), (some 13), (some (12, false)), true⟩,
      ⟨.indexS (.t 13) (.c (.int .i64 0)), (some 14), (some (12, false)), true⟩,
      ⟨.qcall (.f 62) [(.t 14)], (some 15), (some (12, false)), false⟩,
      ⟨.un .not (.t 15), (some 16), (some (12, false)), true⟩,
      ⟨.pick (.t 12) (.c (.bool true)) (.t 16), (some 17), none, true⟩,
      ⟨.mov (.t 17), (some 18), none, true⟩,
      ⟨.mov (.t 0), (some 19), (some (18, false)), true⟩,
      ⟨.qcall (.f 40) [(.t 19)], (some 20), (some (18, false)), false⟩,
      ⟨.pick (.t 18) (.c (.bool true)) (.t 20), (some 21), none, true⟩])
   (.cond (.t 21)
    (.seq (.ops [⟨.mov (.c (.bool false)), (some 2), none, true⟩])
     (.ret))
    (.skip)))
  (.seq (.seq (.ops [⟨.mov (.t 0), (some 22), none, true⟩,
      ⟨.len .str (.t 22), (some 23), none, false⟩,
      ⟨.mov (.c (.int .i64 0)), (some 24), none, true⟩])
   (.block 0 (.loop (.seq (.ops [⟨.bin .lss (.t 24) (.t 23), (some 25), none, true⟩])
     (.seq (.cond (.t 25)
       (.skip)
       (.exit 0))
     (.seq (.block 1 (.seq (.ops [⟨.mov (.t 24), (some 26), none, true⟩,
          ⟨.mov (.t 26), (some 3), none, true⟩])
       (.seq (.ops [⟨.mov (.t 0), (some 27), none, true⟩,
          ⟨.mov (.t 3), (some 28), none, true⟩,
          ⟨.indexS (.t 27) (.t 28), (some 29), none, true⟩,
          ⟨.qcall (.f 62) [(.t 29)], (some 30), none, false⟩,
          ⟨.un .not (.t 30), (some 31), none, true⟩,
          ⟨.mov (.t 31), (some 32), none, true⟩,
          ⟨.mov (.t 0), (some 33), (some (32, true)), true⟩,
          ⟨.mov (.t 3), (some 34), (some (32, true)), true⟩,
          ⟨.indexS (.t 33) (.t 34), (some 35), (some (32, true)), true⟩,
          ⟨.qcall (.f 63) [(.t 35)], (some 36), (some (32, true)), false⟩,
          ⟨.un .not (.t 36), (some 37), (some (32, true)), true⟩,
          ⟨.pick (.t 32) (.t 37) (.c (.bool false)), (some 38), none, true⟩])
       (.cond (.t 38)
        (.seq (.ops [⟨.mov (.c (.bool false)), (some 2), none, true⟩])
         (.ret))
        (.skip)))))
     (.ops [⟨.bin .add (.t 24) (.c (.int .i64 1)), (some 39), none, true⟩,
       ⟨.mov (.t 39), (some 24), none, true⟩])))))))
  (.seq (.ops [⟨.mov (.c (.bool true)), (some 2), none, true⟩])
  (.ret))))
theorem st38 : stmOf Try.prog 38 p38 = some (s38, [.tmp 2], 40) := by kernel_rfl

def p39 : Plan := ⟨⟨[], [], [], [], [], []⟩, []⟩
/-- cupel/cupelref09.Name (1 parameters, 0 captured) -/
def s39 : Stm :=
  .seq (.ops [⟨.mov (.c (.bool false)), (some 2), none, true⟩])
  (.seq (.seq (.ops [⟨.mov (.t 0), (some 4), none, true⟩,
      ⟨.bin .eql (.t 4) (.c (.str [])), (some 5), none, true⟩,
      ⟨.mov (.t 5), (some 6), none, true⟩,
      ⟨.mov (.t 0), (some 7), (some (6, false)), true⟩,
      ⟨.len .str (.t 7), (some 8), (some (6, false)), false⟩,
      ⟨.bin .gtr (.t 8) (.c (.int .i64 16)), (some 9), (some (6, false)), true⟩,
      ⟨.pick (.t 6) (.c (.bool true)) (.t 9), (some 10), none, true⟩,
      ⟨.mov (.t 10), (some 11), none, true⟩,
      ⟨.mov (.t 0), (some 12), (some (11, false)), true⟩,
      ⟨.indexS (.t 12) (.c (.int .i64 0)), (some 13), (some (11, false)), true⟩,
      ⟨.qcall (.f 55) [(.t 13)], (some 14), (some (11, false)), false⟩,
      ⟨.un .not (.t 14), (some 15), (some (11, false)), true⟩,
      ⟨.pick (.t 11) (.c (.bool true)) (.t 15), (some 16), none, true⟩,
      ⟨.mov (.t 16), (some 17), none, true⟩,
      ⟨.mov (.t 0), (some 18), (some (17, false)), true⟩,
      ⟨.qcall (.f 41) [(.t 18)], (some 19), (some (17, false)), false⟩,
      ⟨.pick (.t 17) (.c (.bool true)) (.t 19), (some 20), none, true⟩])
   (.cond (.t 20)
    (.seq (.ops [⟨.mov (.c (.bool false)), (some 2), none, true⟩])
     (.ret))
    (.skip)))
  (.seq (.seq (.ops [⟨.mov (.c (.int .i64 0)), (some 3), none, true⟩])
   (.block 0 (.loop (.seq (.seq (.ops [⟨.mov (.t 3), (some 21), none, true⟩,
         ⟨.mov (.t 0), (some 22), none, true⟩,
         ⟨.len .str (.t 22), (some 23), none, false⟩,
         ⟨.bin .lss (.t 21) (.t 23), (some 24), none, true⟩])
      (.cond (.t 24)
       (.skip)
       (.exit 0)))
     (.seq (.block 1 (.seq (.ops [⟨.mov (.t 0), (some 27), none, true⟩,
          ⟨.mov (.t 3), (some 28), none, true⟩,
          ⟨.indexS (.t 27) (.t 28), (some 29), none, true⟩,
          ⟨.qcall (.f 55) [(.t 29)], (some 30), none, false⟩,
          ⟨.un .not (.t 30), (some 31), none, true⟩,
          ⟨.mov (.t 31), (some 32), none, true⟩,
          ⟨.mov (.t 0), (some 33), (some (32, true)), true⟩,
          ⟨.mov (.t 3), (some 34), (some (32, true)), true⟩,
          ⟨.indexS (.t 33) (.t 34), (some 35), (some (32, true)), true⟩,
          ⟨.qcall (.f 53) [(.t 35)], (some 36), (some (32, true)), false⟩,
          ⟨.un .not (.t 36), (some 37), (some (32, true)), true⟩,
          ⟨.pick (.t 32) (.t 37) (.c (.bool false)), (some 38), none, true⟩])
       (.cond (.t 38)
        (.seq (.ops [⟨.mov (.c (.bool false)), (some 2), none, true⟩])
         (.ret))
        (.skip))))
     (.ops [⟨.mov (.t 3), (some 25), none, true⟩,
       ⟨.bin .add (.t 25) (.c (.int .i64 1)), (some 26), none, true⟩,
       ⟨.mov (.t 26), (some 3), none, true⟩]))))))
  (.seq (.ops [⟨.mov (.c (.bool true)), (some 2), none, true⟩])
  (.ret))))
theorem st39 : stmOf Try.prog 39 p39 = some (s39, [.tmp 2], 39) := by kernel_rfl

def p12 : Plan := ⟨⟨[], [], [], [], [], []⟩, []⟩
/-- cupel/cupellaw09.LexNames (1 parameters, 0 captured) -/
def s12 : Stm :=
  .seq (.ops [⟨.mov (.c (.bool false)), (some 2), none, true⟩])
  (.seq (.ops [⟨.qcall (.f 25) [], (some 3), none, false⟩,
     ⟨.mov (.t 3), (some 4), none, true⟩,
     ⟨.mov (.t 0), (some 5), (some (4, true)), true⟩,
     ⟨.qcall (.f 38) [(.t 5)], (some 6), (some (4, true)), false⟩,
     ⟨.mov (.t 0), (some 7), (some (4, true)), true⟩,
     ⟨.qcall (.f 39) [(.t 7)], (some 8), (some (4, true)), false⟩,
     ⟨.eql .bool false (.t 6) (.t 8), (some 9), (some (4, true)), true⟩,
     ⟨.pick (.t 4) (.t 9) (.c (.bool false)), (some 10), none, true⟩,
     ⟨.mov (.t 10), (some 11), none, true⟩,
     ⟨.mov (.t 0), (some 12), (some (11, true)), true⟩,
     ⟨.qcall (.f 40) [(.t 12)], (some 13), (some (11, true)), false⟩,
     ⟨.mov (.t 0), (some 14), (some (11, true)), true⟩,
     ⟨.qcall (.f 41) [(.t 14)], (some 15), (some (11, true)), false⟩,
     ⟨.eql .bool false (.t 13) (.t 15), (some 16), (some (11, true)), true⟩,
     ⟨.pick (.t 11) (.t 16) (.c (.bool false)), (some 17), none, true⟩,
     ⟨.mov (.t 17), (some 2), none, true⟩])
  (.ret))
theorem st12 : stmOf Try.prog 12 p12 = some (s12, [.tmp 2], 18) := by kernel_rfl

def q23 : List D → Option D
  | [.str s] => if True then some (.tuple [.sl (encT (tokens s).1), .int .i64 (tokens s).2.1, .int .i64 (tokens s).2.2]) else none
  | _ => none
theorem q23_ok (args : List D) (d : D) (h : q23 args = some d) : PCall Try.prog 23 args d := by
  unfold q23 at h
  split at h
  · split at h
    · cases h; exact tokens_c _
    · cases h
  · cases h

def tb23 : Tab := tb56.addQ 23 q23
theorem tb23_q (g : FuncId) (args : List D) : tb23.q g args = if g = 23 then q23 args else tb56.q g args := rfl
theorem tb23_a : tb23.a = tb56.a := rfl
theorem tb23_c : tb23.c = tb56.c := rfl
theorem tb23_ok : tb23.ok Try.prog := Tab.addQ_ok tb56_ok q23_ok
theorem tb23_e : type_of% (And.intro (And.intro @tb23_q (And.intro @tb23_a @tb23_c)) @tb56_e) := (And.intro (And.intro @tb23_q (And.intro @tb23_a @tb23_c)) @tb56_e)

def q24 : List D → Option D
  | [.str s] => if True then some (.tuple [.sl (encT (tokens s).1), .int .i64 (tokens s).2.1, .int .i64 (tokens s).2.2]) else none
  | _ => none
theorem q24_ok (args : List D) (d : D) (h : q24 args = some d) : PCall Try.prog 24 args d := by
  unfold q24 at h
  split at h
  · split at h
    · cases h; exact rTokens_c _
    · cases h
  · cases h

def tb24 : Tab := tb23.addQ 24 q24
theorem tb24_q (g : FuncId) (args : List D) : tb24.q g args = if g = 24 then q24 args else tb23.q g args := rfl
theorem tb24_a : tb24.a = tb23.a := rfl
theorem tb24_c : tb24.c = tb23.c := rfl
theorem tb24_ok : tb24.ok Try.prog := Tab.addQ_ok tb23_ok q24_ok
theorem tb24_e : type_of% (And.intro (And.intro @tb24_q (And.intro @tb24_a @tb24_c)) @tb23_e) := (And.intro (And.intro @tb24_q (And.intro @tb24_a @tb24_c)) @tb23_e)

theorem askE_encT {K : D → AHeap → Prop} {h : AHeap} {l : List Tok} {i : Int} : askE 3 K h (encT l) i = ((0 ≤ i ∧ i < l.length) ∧ ∀ x, l[i.toNat]? = some x → K (.eptr [.int .i64 x.1, .str x.2.1, .int .i64 x.2.2] 0) h) := askE_map fun _ => rfl
theorem awakeT : tokens [97, 58, 61, 49, 46, 53, 32, 47, 47, 32, 120] = ([(1, [97], 0), (5, [58, 61], 1), (3, [49, 46, 53], 3), (0, [], 11)], 0, 0) := by decide +kernel
theorem lexAwake_c : PCall Try.prog 25 [] (.bool true) := by
  refine PCall.run tb24_ok st25 (by simp) fun E => ?_
  simp (config := {maxSteps := 1000000}) only [s25, q23, awakeT, encT, tokD, askE, tb24_e, Int.natCast_nonneg, Nat.le_refl, Int.le_refl, List.take_succ_cons, List.take_zero, decide_true, decide_false, Bool.and_false, Bool.false_and, zz, zzN, ↓reduceIte, Nat.reduceEqDiff, Nat.reduceBEq, Int.reduceLT, Int.reduceLE, Int.reduceToNat, Int.reduceEq, Int.reduceAdd, Int.reduceSub, Int.reduceMul, Int.reduceNeg, Nat.reduceMul, Nat.reduceSub, Nat.reduceLeDiff, Nat.reduceLT, Int.reduceGT, Int.reduceBEq, Int.reduceBNe, reduceCtorEq, Nat.reduceAdd, Ins.map, Fr.ev, argFr, argE, binEv, intEv, shEv, strEv, unEv, Fr.mark, evRes, tup, lenD, lookupD, loadD, partD, storeD, cellsD, cellOk, setAt, objNe, objSame, eqEv, readEv, buildD, buildRows, rowsOf, elemsOf]
def q25 : List D → Option D
  | [] => if True then some (.bool true) else none
  | _ => none
theorem q25_ok (args : List D) (d : D) (h : q25 args = some d) : PCall Try.prog 25 args d := by
  unfold q25 at h
  split at h
  · split at h
    · cases h; exact lexAwake_c
    · cases h
  · cases h

def tb25 : Tab := tb24.addQ 25 q25
theorem tb25_q (g : FuncId) (args : List D) : tb25.q g args = if g = 25 then q25 args else tb24.q g args := rfl
theorem tb25_a : tb25.a = tb24.a := rfl
theorem tb25_c : tb25.c = tb24.c := rfl
theorem tb25_ok : tb25.ok Try.prog := Tab.addQ_ok tb24_ok q25_ok
theorem tb25_e : type_of% (And.intro (And.intro @tb25_q (And.intro @tb25_a @tb25_c)) @tb24_e) := (And.intro (And.intro @tb25_q (And.intro @tb25_a @tb25_c)) @tb24_e)

theorem lexTokens_c (s : List UInt8) : PCall Try.prog 6 [.str s] (.bool true) := by
  refine PCall.run tb25_ok st6 (by simp) fun E => ?_
  simp (config := {maxSteps := 1000000}) only [s6, q23, q24, q25, len_encT, tb25_e, Int.natCast_nonneg, Nat.le_refl, Int.le_refl, List.take_succ_cons, List.take_zero, decide_true, decide_false, Bool.and_false, Bool.false_and, zz, zzN, ↓reduceIte, Nat.reduceEqDiff, Nat.reduceBEq, Int.reduceLT, Int.reduceLE, Int.reduceToNat, Int.reduceEq, Int.reduceAdd, Int.reduceSub, Int.reduceMul, Int.reduceNeg, Nat.reduceMul, Nat.reduceSub, Nat.reduceLeDiff, Nat.reduceLT, Int.reduceGT, Int.reduceBEq, Int.reduceBNe, reduceCtorEq, Nat.reduceAdd, Ins.map, Fr.ev, argFr, argE, binEv, intEv, shEv, strEv, unEv, Fr.mark, evRes, tup, lenD, lookupD, loadD, partD, storeD, cellsD, cellOk, setAt, objNe, objSame, eqEv, readEv, buildD, buildRows, rowsOf, elemsOf]
  intro _ hb
  obtain ⟨l, hl⟩ : ∃ l, l = (tokens s).1 := ⟨_, rfl⟩
  rw [← hl] at hb
  simp only [← hl]
  refine run_loop (X := Nat) (fun i => [(3, .sl (encT l)), (6, .sl (encT l)), (9, .int .i64 i)]) (fun _ => .emp) (fun i => l.length - i) (fun i => i ≤ l.length) 0 (by simp) ?_ (AHeap.sub_refl _) ?_
  · simp only [Int.natCast_nonneg, Nat.le_refl, Int.le_refl, List.take_succ_cons, List.take_zero, decide_true, decide_false, Bool.and_false, Bool.false_and, zz, zzN, ↓reduceIte, Nat.reduceEqDiff, Nat.reduceBEq, Int.reduceLT, Int.reduceLE, Int.reduceToNat, Int.reduceEq, Int.reduceAdd, Int.reduceSub, Int.reduceMul, Int.reduceNeg, Nat.reduceMul, Nat.reduceSub, Nat.reduceLeDiff, Nat.reduceLT, Int.reduceGT, Int.reduceBEq, Int.reduceBNe, reduceCtorEq, Nat.reduceAdd, Ins.map, Fr.ev, argFr, argE, binEv, intEv, shEv, strEv, unEv, Fr.mark, evRes, tup, lenD, lookupD, loadD, partD, storeD, cellsD, cellOk, setAt, objNe, objSame, eqEv, readEv, buildD, buildRows, rowsOf, elemsOf]
  · intro i Q i1 hQ
    by_cases c1 : i < l.length
    · have g1 : ((i : Int) < (l.length : Int)) = True := by simp; omega
      have wi : IntKind.i64.wrap ((i : Int) + 1) = ((i + 1 : Nat) : Int) := wrap_succ (by omega)
      obtain ⟨x, hx⟩ : ∃ x, l[i]? = some x := by rw [List.getElem?_eq_getElem c1]; exact ⟨_, rfl⟩
      simp only [g1, wi, hx, len_encT, askE_encT, tb25_e, Int.natCast_nonneg, Nat.le_refl, Int.le_refl, List.take_succ_cons, List.take_zero, decide_true, decide_false, Bool.and_false, Bool.false_and, zz, zzN, ↓reduceIte, Nat.reduceEqDiff, Nat.reduceBEq, Int.reduceLT, Int.reduceLE, Int.reduceToNat, Int.reduceEq, Int.reduceAdd, Int.reduceSub, Int.reduceMul, Int.reduceNeg, Nat.reduceMul, Nat.reduceSub, Nat.reduceLeDiff, Nat.reduceLT, Int.reduceGT, Int.reduceBEq, Int.reduceBNe, reduceCtorEq, Nat.reduceAdd, Ins.map, Fr.ev, argFr, argE, binEv, intEv, shEv, strEv, unEv, Fr.mark, evRes, tup, lenD, lookupD, loadD, partD, storeD, cellsD, cellOk, setAt, objNe, objSame, eqEv, readEv, buildD, buildRows, rowsOf, elemsOf]
      repeat (first | intro _ | refine And.intro (by omega) ?_)
      refine hQ (i + 1) _ _ (by omega) ?_ (AHeap.sub_refl _) (by omega)
      simp only [Int.natCast_nonneg, Nat.le_refl, Int.le_refl, List.take_succ_cons, List.take_zero, decide_true, decide_false, Bool.and_false, Bool.false_and, zz, zzN, ↓reduceIte, Nat.reduceEqDiff, Nat.reduceBEq, Int.reduceLT, Int.reduceLE, Int.reduceToNat, Int.reduceEq, Int.reduceAdd, Int.reduceSub, Int.reduceMul, Int.reduceNeg, Nat.reduceMul, Nat.reduceSub, Nat.reduceLeDiff, Nat.reduceLT, Int.reduceGT, Int.reduceBEq, Int.reduceBNe, reduceCtorEq, Nat.reduceAdd, Ins.map, Fr.ev, argFr, argE, binEv, intEv, shEv, strEv, unEv, Fr.mark, evRes, tup, lenD, lookupD, loadD, partD, storeD, cellsD, cellOk, setAt, objNe, objSame, eqEv, readEv, buildD, buildRows, rowsOf, elemsOf]
    · have g1 : ((i : Int) < (l.length : Int)) = False := by simp; omega
      simp only [g1, len_encT, tb25_e, Int.natCast_nonneg, Nat.le_refl, Int.le_refl, List.take_succ_cons, List.take_zero, decide_true, decide_false, Bool.and_false, Bool.false_and, zz, zzN, ↓reduceIte, Nat.reduceEqDiff, Nat.reduceBEq, Int.reduceLT, Int.reduceLE, Int.reduceToNat, Int.reduceEq, Int.reduceAdd, Int.reduceSub, Int.reduceMul, Int.reduceNeg, Nat.reduceMul, Nat.reduceSub, Nat.reduceLeDiff, Nat.reduceLT, Int.reduceGT, Int.reduceBEq, Int.reduceBNe, reduceCtorEq, Nat.reduceAdd, Ins.map, Fr.ev, argFr, argE, binEv, intEv, shEv, strEv, unEv, Fr.mark, evRes, tup, lenD, lookupD, loadD, partD, storeD, cellsD, cellOk, setAt, objNe, objSame, eqEv, readEv, buildD, buildRows, rowsOf, elemsOf]
/-- Which texts may be names. -/
def nameL (s : List UInt8) : Bool := decide (1 ≤ s.length) && decide (s.length ≤ 16) && isLetter ((s.getD 0 0).toNat : Int) && !words.contains s && decide (spn nameP s = s.length)
theorem spn_nil {p : Int → Bool} : spn p [] = 0 := rfl
theorem name_c (s : List UInt8) : PCall Try.prog 38 [.str s] (.bool (nameL s)) := by
  refine PCall.run tb25_ok st38 (by simp) fun E => ?_
  by_cases c0 : 1 ≤ s.length ∧ s.length ≤ 16
  · have g1 : ((s.length : Int) < 1) = False := by simp; omega
    have g2 : ((s.length : Int) > 16) = False := by simp; omega
    cases c1 : isLetter ((s.getD 0 0).toNat : Int) with
    | false =>
      have hn : nameL s = false := by simp only [nameL, c1]; simp
      simp (config := {maxSteps := 1000000}) only [s38, g1, g2, c1, hn, q62, tb25_e, Int.natCast_nonneg, Nat.le_refl, Int.le_refl, List.take_succ_cons, List.take_zero, decide_true, decide_false, Bool.and_false, Bool.false_and, zz, zzN, ↓reduceIte, Nat.reduceEqDiff, Nat.reduceBEq, Int.reduceLT, Int.reduceLE, Int.reduceToNat, Int.reduceEq, Int.reduceAdd, Int.reduceSub, Int.reduceMul, Int.reduceNeg, Nat.reduceMul, Nat.reduceSub, Nat.reduceLeDiff, Nat.reduceLT, Int.reduceGT, Int.reduceBEq, Int.reduceBNe, reduceCtorEq, Nat.reduceAdd, Ins.map, Fr.ev, argFr, argE, binEv, intEv, shEv, strEv, unEv, Fr.mark, evRes, tup, lenD, lookupD, loadD, partD, storeD, cellsD, cellOk, setAt, objNe, objSame, eqEv, readEv, buildD, buildRows, rowsOf, elemsOf]
      omega
    | true =>
    cases c2 : words.contains s with
    | true =>
      have hn : nameL s = false := by simp only [nameL, c2]; simp
      simp (config := {maxSteps := 1000000}) only [s38, g1, g2, c1, c2, hn, q62, q40, tb25_e, Int.natCast_nonneg, Nat.le_refl, Int.le_refl, List.take_succ_cons, List.take_zero, decide_true, decide_false, Bool.and_false, Bool.false_and, zz, zzN, ↓reduceIte, Nat.reduceEqDiff, Nat.reduceBEq, Int.reduceLT, Int.reduceLE, Int.reduceToNat, Int.reduceEq, Int.reduceAdd, Int.reduceSub, Int.reduceMul, Int.reduceNeg, Nat.reduceMul, Nat.reduceSub, Nat.reduceLeDiff, Nat.reduceLT, Int.reduceGT, Int.reduceBEq, Int.reduceBNe, reduceCtorEq, Nat.reduceAdd, Ins.map, Fr.ev, argFr, argE, binEv, intEv, shEv, strEv, unEv, Fr.mark, evRes, tup, lenD, lookupD, loadD, partD, storeD, cellsD, cellOk, setAt, objNe, objSame, eqEv, readEv, buildD, buildRows, rowsOf, elemsOf]
      omega
    | false =>
    have hn : nameL s = decide (spn nameP s = s.length) := by simp only [nameL, c1, c2]; simp; omega
    simp (config := {maxSteps := 1000000}) only [s38, g1, g2, c1, c2, q62, q40, tb25_e, Int.natCast_nonneg, Nat.le_refl, Int.le_refl, List.take_succ_cons, List.take_zero, decide_true, decide_false, Bool.and_false, Bool.false_and, zz, zzN, ↓reduceIte, Nat.reduceEqDiff, Nat.reduceBEq, Int.reduceLT, Int.reduceLE, Int.reduceToNat, Int.reduceEq, Int.reduceAdd, Int.reduceSub, Int.reduceMul, Int.reduceNeg, Nat.reduceMul, Nat.reduceSub, Nat.reduceLeDiff, Nat.reduceLT, Int.reduceGT, Int.reduceBEq, Int.reduceBNe, reduceCtorEq, Nat.reduceAdd, Ins.map, Fr.ev, argFr, argE, binEv, intEv, shEv, strEv, unEv, Fr.mark, evRes, tup, lenD, lookupD, loadD, partD, storeD, cellsD, cellOk, setAt, objNe, objSame, eqEv, readEv, buildD, buildRows, rowsOf, elemsOf]
    repeat (first | intro _ | refine And.intro (by omega) ?_)
    refine run_loop (X := Nat) (fun i => [(0, .str s), (23, .int .i64 s.length), (24, .int .i64 i)]) (fun _ => .emp) (fun i => s.length - i) (fun i => i ≤ s.length ∧ i + spn nameP (s.drop i) = spn nameP s) 0 (by simp) ?_ (AHeap.sub_refl _) ?_
    · simp only [Int.natCast_nonneg, Nat.le_refl, Int.le_refl, List.take_succ_cons, List.take_zero, decide_true, decide_false, Bool.and_false, Bool.false_and, zz, zzN, ↓reduceIte, Nat.reduceEqDiff, Nat.reduceBEq, Int.reduceLT, Int.reduceLE, Int.reduceToNat, Int.reduceEq, Int.reduceAdd, Int.reduceSub, Int.reduceMul, Int.reduceNeg, Nat.reduceMul, Nat.reduceSub, Nat.reduceLeDiff, Nat.reduceLT, Int.reduceGT, Int.reduceBEq, Int.reduceBNe, reduceCtorEq, Nat.reduceAdd, Ins.map, Fr.ev, argFr, argE, binEv, intEv, shEv, strEv, unEv, Fr.mark, evRes, tup, lenD, lookupD, loadD, partD, storeD, cellsD, cellOk, setAt, objNe, objSame, eqEv, readEv, buildD, buildRows, rowsOf, elemsOf]
    · rintro i Q ⟨i1, i2⟩ hQ
      have wi : IntKind.i64.wrap ((i : Int) + 1) = ((i + 1 : Nat) : Int) := wrap_succ (by omega)
      by_cases d1 : i < s.length
      · have g5 : ((i : Int) < (s.length : Int)) = True := by simp; omega
        rw [drop_cons d1, spn_cons] at i2
        by_cases d2 : nameP ((s.getD i 0).toNat : Int) = true
        · rw [if_pos d2] at i2
          cases d3 : isLetter ((s.getD i 0).toNat : Int) with
          | true =>
            simp (config := {maxSteps := 1000000}) only [g5, wi, d3, q62, q63, tb25_e, Int.natCast_nonneg, Nat.le_refl, Int.le_refl, List.take_succ_cons, List.take_zero, decide_true, decide_false, Bool.and_false, Bool.false_and, zz, zzN, ↓reduceIte, Nat.reduceEqDiff, Nat.reduceBEq, Int.reduceLT, Int.reduceLE, Int.reduceToNat, Int.reduceEq, Int.reduceAdd, Int.reduceSub, Int.reduceMul, Int.reduceNeg, Nat.reduceMul, Nat.reduceSub, Nat.reduceLeDiff, Nat.reduceLT, Int.reduceGT, Int.reduceBEq, Int.reduceBNe, reduceCtorEq, Nat.reduceAdd, Ins.map, Fr.ev, argFr, argE, binEv, intEv, shEv, strEv, unEv, Fr.mark, evRes, tup, lenD, lookupD, loadD, partD, storeD, cellsD, cellOk, setAt, objNe, objSame, eqEv, readEv, buildD, buildRows, rowsOf, elemsOf]
            repeat (first | intro _ | refine And.intro (by omega) ?_)
            refine hQ (i + 1) _ _ ⟨by omega, by omega⟩ ?_ (AHeap.sub_refl _) (by omega)
            simp only [Int.natCast_nonneg, Nat.le_refl, Int.le_refl, List.take_succ_cons, List.take_zero, decide_true, decide_false, Bool.and_false, Bool.false_and, zz, zzN, ↓reduceIte, Nat.reduceEqDiff, Nat.reduceBEq, Int.reduceLT, Int.reduceLE, Int.reduceToNat, Int.reduceEq, Int.reduceAdd, Int.reduceSub, Int.reduceMul, Int.reduceNeg, Nat.reduceMul, Nat.reduceSub, Nat.reduceLeDiff, Nat.reduceLT, Int.reduceGT, Int.reduceBEq, Int.reduceBNe, reduceCtorEq, Nat.reduceAdd, Ins.map, Fr.ev, argFr, argE, binEv, intEv, shEv, strEv, unEv, Fr.mark, evRes, tup, lenD, lookupD, loadD, partD, storeD, cellsD, cellOk, setAt, objNe, objSame, eqEv, readEv, buildD, buildRows, rowsOf, elemsOf]
          | false =>
            have d4 : isDigit ((s.getD i 0).toNat : Int) = true := by rw [nameP, d3, Bool.false_or] at d2; exact d2
            simp (config := {maxSteps := 1000000}) only [g5, wi, d3, d4, q62, q63, tb25_e, Int.natCast_nonneg, Nat.le_refl, Int.le_refl, List.take_succ_cons, List.take_zero, decide_true, decide_false, Bool.and_false, Bool.false_and, zz, zzN, ↓reduceIte, Nat.reduceEqDiff, Nat.reduceBEq, Int.reduceLT, Int.reduceLE, Int.reduceToNat, Int.reduceEq, Int.reduceAdd, Int.reduceSub, Int.reduceMul, Int.reduceNeg, Nat.reduceMul, Nat.reduceSub, Nat.reduceLeDiff, Nat.reduceLT, Int.reduceGT, Int.reduceBEq, Int.reduceBNe, reduceCtorEq, Nat.reduceAdd, Ins.map, Fr.ev, argFr, argE, binEv, intEv, shEv, strEv, unEv, Fr.mark, evRes, tup, lenD, lookupD, loadD, partD, storeD, cellsD, cellOk, setAt, objNe, objSame, eqEv, readEv, buildD, buildRows, rowsOf, elemsOf]
            repeat (first | intro _ | refine And.intro (by omega) ?_)
            refine hQ (i + 1) _ _ ⟨by omega, by omega⟩ ?_ (AHeap.sub_refl _) (by omega)
            simp only [Int.natCast_nonneg, Nat.le_refl, Int.le_refl, List.take_succ_cons, List.take_zero, decide_true, decide_false, Bool.and_false, Bool.false_and, zz, zzN, ↓reduceIte, Nat.reduceEqDiff, Nat.reduceBEq, Int.reduceLT, Int.reduceLE, Int.reduceToNat, Int.reduceEq, Int.reduceAdd, Int.reduceSub, Int.reduceMul, Int.reduceNeg, Nat.reduceMul, Nat.reduceSub, Nat.reduceLeDiff, Nat.reduceLT, Int.reduceGT, Int.reduceBEq, Int.reduceBNe, reduceCtorEq, Nat.reduceAdd, Ins.map, Fr.ev, argFr, argE, binEv, intEv, shEv, strEv, unEv, Fr.mark, evRes, tup, lenD, lookupD, loadD, partD, storeD, cellsD, cellOk, setAt, objNe, objSame, eqEv, readEv, buildD, buildRows, rowsOf, elemsOf]
        · rw [if_neg d2] at i2
          have d3 : isLetter ((s.getD i 0).toNat : Int) = false := by simp only [nameP, Bool.or_eq_true, not_or, Bool.not_eq_true] at d2; exact d2.1
          have d4 : isDigit ((s.getD i 0).toNat : Int) = false := by simp only [nameP, Bool.or_eq_true, not_or, Bool.not_eq_true] at d2; exact d2.2
          have hn2 : nameL s = false := by rw [hn]; simp; omega
          simp (config := {maxSteps := 1000000}) only [g5, wi, d3, d4, hn2, q62, q63, tb25_e, Int.natCast_nonneg, Nat.le_refl, Int.le_refl, List.take_succ_cons, List.take_zero, decide_true, decide_false, Bool.and_false, Bool.false_and, zz, zzN, ↓reduceIte, Nat.reduceEqDiff, Nat.reduceBEq, Int.reduceLT, Int.reduceLE, Int.reduceToNat, Int.reduceEq, Int.reduceAdd, Int.reduceSub, Int.reduceMul, Int.reduceNeg, Nat.reduceMul, Nat.reduceSub, Nat.reduceLeDiff, Nat.reduceLT, Int.reduceGT, Int.reduceBEq, Int.reduceBNe, reduceCtorEq, Nat.reduceAdd, Ins.map, Fr.ev, argFr, argE, binEv, intEv, shEv, strEv, unEv, Fr.mark, evRes, tup, lenD, lookupD, loadD, partD, storeD, cellsD, cellOk, setAt, objNe, objSame, eqEv, readEv, buildD, buildRows, rowsOf, elemsOf]
          try omega
      · have g5 : ((i : Int) < (s.length : Int)) = False := by simp; omega
        have e : s.drop i = [] := List.drop_of_length_le (by omega)
        rw [e, spn_nil] at i2
        have hn2 : nameL s = true := by rw [hn, decide_eq_true_eq]; omega
        simp (config := {maxSteps := 1000000}) only [g5, hn2, tb25_e, Int.natCast_nonneg, Nat.le_refl, Int.le_refl, List.take_succ_cons, List.take_zero, decide_true, decide_false, Bool.and_false, Bool.false_and, zz, zzN, ↓reduceIte, Nat.reduceEqDiff, Nat.reduceBEq, Int.reduceLT, Int.reduceLE, Int.reduceToNat, Int.reduceEq, Int.reduceAdd, Int.reduceSub, Int.reduceMul, Int.reduceNeg, Nat.reduceMul, Nat.reduceSub, Nat.reduceLeDiff, Nat.reduceLT, Int.reduceGT, Int.reduceBEq, Int.reduceBNe, reduceCtorEq, Nat.reduceAdd, Ins.map, Fr.ev, argFr, argE, binEv, intEv, shEv, strEv, unEv, Fr.mark, evRes, tup, lenD, lookupD, loadD, partD, storeD, cellsD, cellOk, setAt, objNe, objSame, eqEv, readEv, buildD, buildRows, rowsOf, elemsOf]
        try omega
  · have hn : nameL s = false := by simp only [nameL]; simp; omega
    by_cases c1 : 1 ≤ s.length
    · have g1 : ((s.length : Int) < 1) = False := by simp; omega
      have g2 : ((s.length : Int) > 16) = True := by simp; omega
      simp (config := {maxSteps := 1000000}) only [s38, g1, g2, hn, tb25_e, Int.natCast_nonneg, Nat.le_refl, Int.le_refl, List.take_succ_cons, List.take_zero, decide_true, decide_false, Bool.and_false, Bool.false_and, zz, zzN, ↓reduceIte, Nat.reduceEqDiff, Nat.reduceBEq, Int.reduceLT, Int.reduceLE, Int.reduceToNat, Int.reduceEq, Int.reduceAdd, Int.reduceSub, Int.reduceMul, Int.reduceNeg, Nat.reduceMul, Nat.reduceSub, Nat.reduceLeDiff, Nat.reduceLT, Int.reduceGT, Int.reduceBEq, Int.reduceBNe, reduceCtorEq, Nat.reduceAdd, Ins.map, Fr.ev, argFr, argE, binEv, intEv, shEv, strEv, unEv, Fr.mark, evRes, tup, lenD, lookupD, loadD, partD, storeD, cellsD, cellOk, setAt, objNe, objSame, eqEv, readEv, buildD, buildRows, rowsOf, elemsOf]
    · have g1 : ((s.length : Int) < 1) = True := by simp; omega
      simp (config := {maxSteps := 1000000}) only [s38, g1, hn, tb25_e, Int.natCast_nonneg, Nat.le_refl, Int.le_refl, List.take_succ_cons, List.take_zero, decide_true, decide_false, Bool.and_false, Bool.false_and, zz, zzN, ↓reduceIte, Nat.reduceEqDiff, Nat.reduceBEq, Int.reduceLT, Int.reduceLE, Int.reduceToNat, Int.reduceEq, Int.reduceAdd, Int.reduceSub, Int.reduceMul, Int.reduceNeg, Nat.reduceMul, Nat.reduceSub, Nat.reduceLeDiff, Nat.reduceLT, Int.reduceGT, Int.reduceBEq, Int.reduceBNe, reduceCtorEq, Nat.reduceAdd, Ins.map, Fr.ev, argFr, argE, binEv, intEv, shEv, strEv, unEv, Fr.mark, evRes, tup, lenD, lookupD, loadD, partD, storeD, cellsD, cellOk, setAt, objNe, objSame, eqEv, readEv, buildD, buildRows, rowsOf, elemsOf]
theorem rName_c (s : List UInt8) : PCall Try.prog 39 [.str s] (.bool (nameL s)) := by
  refine PCall.run tb25_ok st39 (by simp) fun E => ?_
  by_cases c0 : 1 ≤ s.length ∧ s.length ≤ 16
  · have ge : (s == []) = false := by simp; intro e; subst e; simp at *
    have g2 : ((s.length : Int) > 16) = False := by simp; omega
    cases c1 : isLetter ((s.getD 0 0).toNat : Int) with
    | false =>
      have hn : nameL s = false := by simp only [nameL, c1]; simp
      simp (config := {maxSteps := 1000000}) only [s39, strEv, ge, g2, c1, hn, q55, tb25_e, Int.natCast_nonneg, Nat.le_refl, Int.le_refl, List.take_succ_cons, List.take_zero, decide_true, decide_false, Bool.and_false, Bool.false_and, zz, zzN, ↓reduceIte, Nat.reduceEqDiff, Nat.reduceBEq, Int.reduceLT, Int.reduceLE, Int.reduceToNat, Int.reduceEq, Int.reduceAdd, Int.reduceSub, Int.reduceMul, Int.reduceNeg, Nat.reduceMul, Nat.reduceSub, Nat.reduceLeDiff, Nat.reduceLT, Int.reduceGT, Int.reduceBEq, Int.reduceBNe, reduceCtorEq, Nat.reduceAdd, Ins.map, Fr.ev, argFr, argE, binEv, intEv, shEv, strEv, unEv, Fr.mark, evRes, tup, lenD, lookupD, loadD, partD, storeD, cellsD, cellOk, setAt, objNe, objSame, eqEv, readEv, buildD, buildRows, rowsOf, elemsOf]
      omega
    | true =>
    cases c2 : words.contains s with
    | true =>
      have hn : nameL s = false := by simp only [nameL, c2]; simp
      simp (config := {maxSteps := 1000000}) only [s39, strEv, ge, g2, c1, c2, hn, q55, q41, tb25_e, Int.natCast_nonneg, Nat.le_refl, Int.le_refl, List.take_succ_cons, List.take_zero, decide_true, decide_false, Bool.and_false, Bool.false_and, zz, zzN, ↓reduceIte, Nat.reduceEqDiff, Nat.reduceBEq, Int.reduceLT, Int.reduceLE, Int.reduceToNat, Int.reduceEq, Int.reduceAdd, Int.reduceSub, Int.reduceMul, Int.reduceNeg, Nat.reduceMul, Nat.reduceSub, Nat.reduceLeDiff, Nat.reduceLT, Int.reduceGT, Int.reduceBEq, Int.reduceBNe, reduceCtorEq, Nat.reduceAdd, Ins.map, Fr.ev, argFr, argE, binEv, intEv, shEv, strEv, unEv, Fr.mark, evRes, tup, lenD, lookupD, loadD, partD, storeD, cellsD, cellOk, setAt, objNe, objSame, eqEv, readEv, buildD, buildRows, rowsOf, elemsOf]
      omega
    | false =>
    have hn : nameL s = decide (spn nameP s = s.length) := by simp only [nameL, c1, c2]; simp; omega
    simp (config := {maxSteps := 1000000}) only [s39, strEv, ge, g2, c1, c2, q55, q41, tb25_e, Int.natCast_nonneg, Nat.le_refl, Int.le_refl, List.take_succ_cons, List.take_zero, decide_true, decide_false, Bool.and_false, Bool.false_and, zz, zzN, ↓reduceIte, Nat.reduceEqDiff, Nat.reduceBEq, Int.reduceLT, Int.reduceLE, Int.reduceToNat, Int.reduceEq, Int.reduceAdd, Int.reduceSub, Int.reduceMul, Int.reduceNeg, Nat.reduceMul, Nat.reduceSub, Nat.reduceLeDiff, Nat.reduceLT, Int.reduceGT, Int.reduceBEq, Int.reduceBNe, reduceCtorEq, Nat.reduceAdd, Ins.map, Fr.ev, argFr, argE, binEv, intEv, shEv, strEv, unEv, Fr.mark, evRes, tup, lenD, lookupD, loadD, partD, storeD, cellsD, cellOk, setAt, objNe, objSame, eqEv, readEv, buildD, buildRows, rowsOf, elemsOf]
    repeat (first | intro _ | refine And.intro (by omega) ?_)
    refine run_loop (X := Nat) (fun i => [(0, .str s), (3, .int .i64 i)]) (fun _ => .emp) (fun i => s.length - i) (fun i => i ≤ s.length ∧ i + spn nameP (s.drop i) = spn nameP s) 0 (by simp) ?_ (AHeap.sub_refl _) ?_
    · simp only [Int.natCast_nonneg, Nat.le_refl, Int.le_refl, List.take_succ_cons, List.take_zero, decide_true, decide_false, Bool.and_false, Bool.false_and, zz, zzN, ↓reduceIte, Nat.reduceEqDiff, Nat.reduceBEq, Int.reduceLT, Int.reduceLE, Int.reduceToNat, Int.reduceEq, Int.reduceAdd, Int.reduceSub, Int.reduceMul, Int.reduceNeg, Nat.reduceMul, Nat.reduceSub, Nat.reduceLeDiff, Nat.reduceLT, Int.reduceGT, Int.reduceBEq, Int.reduceBNe, reduceCtorEq, Nat.reduceAdd, Ins.map, Fr.ev, argFr, argE, binEv, intEv, shEv, strEv, unEv, Fr.mark, evRes, tup, lenD, lookupD, loadD, partD, storeD, cellsD, cellOk, setAt, objNe, objSame, eqEv, readEv, buildD, buildRows, rowsOf, elemsOf]
    · rintro i Q ⟨i1, i2⟩ hQ
      have wi : IntKind.i64.wrap ((i : Int) + 1) = ((i + 1 : Nat) : Int) := wrap_succ (by omega)
      by_cases d1 : i < s.length
      · have g5 : ((i : Int) < (s.length : Int)) = True := by simp; omega
        rw [drop_cons d1, spn_cons] at i2
        by_cases d2 : nameP ((s.getD i 0).toNat : Int) = true
        · rw [if_pos d2] at i2
          cases d3 : isLetter ((s.getD i 0).toNat : Int) with
          | true =>
            simp (config := {maxSteps := 1000000}) only [g5, wi, d3, q55, q53, tb25_e, Int.natCast_nonneg, Nat.le_refl, Int.le_refl, List.take_succ_cons, List.take_zero, decide_true, decide_false, Bool.and_false, Bool.false_and, zz, zzN, ↓reduceIte, Nat.reduceEqDiff, Nat.reduceBEq, Int.reduceLT, Int.reduceLE, Int.reduceToNat, Int.reduceEq, Int.reduceAdd, Int.reduceSub, Int.reduceMul, Int.reduceNeg, Nat.reduceMul, Nat.reduceSub, Nat.reduceLeDiff, Nat.reduceLT, Int.reduceGT, Int.reduceBEq, Int.reduceBNe, reduceCtorEq, Nat.reduceAdd, Ins.map, Fr.ev, argFr, argE, binEv, intEv, shEv, strEv, unEv, Fr.mark, evRes, tup, lenD, lookupD, loadD, partD, storeD, cellsD, cellOk, setAt, objNe, objSame, eqEv, readEv, buildD, buildRows, rowsOf, elemsOf]
            repeat (first | intro _ | refine And.intro (by omega) ?_)
            refine hQ (i + 1) _ _ ⟨by omega, by omega⟩ ?_ (AHeap.sub_refl _) (by omega)
            simp only [Int.natCast_nonneg, Nat.le_refl, Int.le_refl, List.take_succ_cons, List.take_zero, decide_true, decide_false, Bool.and_false, Bool.false_and, zz, zzN, ↓reduceIte, Nat.reduceEqDiff, Nat.reduceBEq, Int.reduceLT, Int.reduceLE, Int.reduceToNat, Int.reduceEq, Int.reduceAdd, Int.reduceSub, Int.reduceMul, Int.reduceNeg, Nat.reduceMul, Nat.reduceSub, Nat.reduceLeDiff, Nat.reduceLT, Int.reduceGT, Int.reduceBEq, Int.reduceBNe, reduceCtorEq, Nat.reduceAdd, Ins.map, Fr.ev, argFr, argE, binEv, intEv, shEv, strEv, unEv, Fr.mark, evRes, tup, lenD, lookupD, loadD, partD, storeD, cellsD, cellOk, setAt, objNe, objSame, eqEv, readEv, buildD, buildRows, rowsOf, elemsOf]
          | false =>
            have d4 : isDigit ((s.getD i 0).toNat : Int) = true := by rw [nameP, d3, Bool.false_or] at d2; exact d2
            simp (config := {maxSteps := 1000000}) only [g5, wi, d3, d4, q55, q53, tb25_e, Int.natCast_nonneg, Nat.le_refl, Int.le_refl, List.take_succ_cons, List.take_zero, decide_true, decide_false, Bool.and_false, Bool.false_and, zz, zzN, ↓reduceIte, Nat.reduceEqDiff, Nat.reduceBEq, Int.reduceLT, Int.reduceLE, Int.reduceToNat, Int.reduceEq, Int.reduceAdd, Int.reduceSub, Int.reduceMul, Int.reduceNeg, Nat.reduceMul, Nat.reduceSub, Nat.reduceLeDiff, Nat.reduceLT, Int.reduceGT, Int.reduceBEq, Int.reduceBNe, reduceCtorEq, Nat.reduceAdd, Ins.map, Fr.ev, argFr, argE, binEv, intEv, shEv, strEv, unEv, Fr.mark, evRes, tup, lenD, lookupD, loadD, partD, storeD, cellsD, cellOk, setAt, objNe, objSame, eqEv, readEv, buildD, buildRows, rowsOf, elemsOf]
            repeat (first | intro _ | refine And.intro (by omega) ?_)
            refine hQ (i + 1) _ _ ⟨by omega, by omega⟩ ?_ (AHeap.sub_refl _) (by omega)
            simp only [Int.natCast_nonneg, Nat.le_refl, Int.le_refl, List.take_succ_cons, List.take_zero, decide_true, decide_false, Bool.and_false, Bool.false_and, zz, zzN, ↓reduceIte, Nat.reduceEqDiff, Nat.reduceBEq, Int.reduceLT, Int.reduceLE, Int.reduceToNat, Int.reduceEq, Int.reduceAdd, Int.reduceSub, Int.reduceMul, Int.reduceNeg, Nat.reduceMul, Nat.reduceSub, Nat.reduceLeDiff, Nat.reduceLT, Int.reduceGT, Int.reduceBEq, Int.reduceBNe, reduceCtorEq, Nat.reduceAdd, Ins.map, Fr.ev, argFr, argE, binEv, intEv, shEv, strEv, unEv, Fr.mark, evRes, tup, lenD, lookupD, loadD, partD, storeD, cellsD, cellOk, setAt, objNe, objSame, eqEv, readEv, buildD, buildRows, rowsOf, elemsOf]
        · rw [if_neg d2] at i2
          have d3 : isLetter ((s.getD i 0).toNat : Int) = false := by simp only [nameP, Bool.or_eq_true, not_or, Bool.not_eq_true] at d2; exact d2.1
          have d4 : isDigit ((s.getD i 0).toNat : Int) = false := by simp only [nameP, Bool.or_eq_true, not_or, Bool.not_eq_true] at d2; exact d2.2
          have hn2 : nameL s = false := by rw [hn]; simp; omega
          simp (config := {maxSteps := 1000000}) only [g5, wi, d3, d4, hn2, q55, q53, tb25_e, Int.natCast_nonneg, Nat.le_refl, Int.le_refl, List.take_succ_cons, List.take_zero, decide_true, decide_false, Bool.and_false, Bool.false_and, zz, zzN, ↓reduceIte, Nat.reduceEqDiff, Nat.reduceBEq, Int.reduceLT, Int.reduceLE, Int.reduceToNat, Int.reduceEq, Int.reduceAdd, Int.reduceSub, Int.reduceMul, Int.reduceNeg, Nat.reduceMul, Nat.reduceSub, Nat.reduceLeDiff, Nat.reduceLT, Int.reduceGT, Int.reduceBEq, Int.reduceBNe, reduceCtorEq, Nat.reduceAdd, Ins.map, Fr.ev, argFr, argE, binEv, intEv, shEv, strEv, unEv, Fr.mark, evRes, tup, lenD, lookupD, loadD, partD, storeD, cellsD, cellOk, setAt, objNe, objSame, eqEv, readEv, buildD, buildRows, rowsOf, elemsOf]
          try omega
      · have g5 : ((i : Int) < (s.length : Int)) = False := by simp; omega
        have e : s.drop i = [] := List.drop_of_length_le (by omega)
        rw [e, spn_nil] at i2
        have hn2 : nameL s = true := by rw [hn, decide_eq_true_eq]; omega
        simp (config := {maxSteps := 1000000}) only [g5, hn2, tb25_e, Int.natCast_nonneg, Nat.le_refl, Int.le_refl, List.take_succ_cons, List.take_zero, decide_true, decide_false, Bool.and_false, Bool.false_and, zz, zzN, ↓reduceIte, Nat.reduceEqDiff, Nat.reduceBEq, Int.reduceLT, Int.reduceLE, Int.reduceToNat, Int.reduceEq, Int.reduceAdd, Int.reduceSub, Int.reduceMul, Int.reduceNeg, Nat.reduceMul, Nat.reduceSub, Nat.reduceLeDiff, Nat.reduceLT, Int.reduceGT, Int.reduceBEq, Int.reduceBNe, reduceCtorEq, Nat.reduceAdd, Ins.map, Fr.ev, argFr, argE, binEv, intEv, shEv, strEv, unEv, Fr.mark, evRes, tup, lenD, lookupD, loadD, partD, storeD, cellsD, cellOk, setAt, objNe, objSame, eqEv, readEv, buildD, buildRows, rowsOf, elemsOf]
        try omega
  · have hn : nameL s = false := by simp only [nameL]; simp; omega
    by_cases c1 : 1 ≤ s.length
    · have ge : (s == []) = false := by simp; intro e; subst e; simp at *
      have g2 : ((s.length : Int) > 16) = True := by simp; omega
      simp (config := {maxSteps := 1000000}) only [s39, strEv, ge, g2, hn, tb25_e, Int.natCast_nonneg, Nat.le_refl, Int.le_refl, List.take_succ_cons, List.take_zero, decide_true, decide_false, Bool.and_false, Bool.false_and, zz, zzN, ↓reduceIte, Nat.reduceEqDiff, Nat.reduceBEq, Int.reduceLT, Int.reduceLE, Int.reduceToNat, Int.reduceEq, Int.reduceAdd, Int.reduceSub, Int.reduceMul, Int.reduceNeg, Nat.reduceMul, Nat.reduceSub, Nat.reduceLeDiff, Nat.reduceLT, Int.reduceGT, Int.reduceBEq, Int.reduceBNe, reduceCtorEq, Nat.reduceAdd, Ins.map, Fr.ev, argFr, argE, binEv, intEv, shEv, strEv, unEv, Fr.mark, evRes, tup, lenD, lookupD, loadD, partD, storeD, cellsD, cellOk, setAt, objNe, objSame, eqEv, readEv, buildD, buildRows, rowsOf, elemsOf]
    · have ge : (s == []) = true := by simp; exact List.length_eq_zero_iff.1 (by omega)
      simp (config := {maxSteps := 1000000}) only [s39, strEv, ge, hn, tb25_e, Int.natCast_nonneg, Nat.le_refl, Int.le_refl, List.take_succ_cons, List.take_zero, decide_true, decide_false, Bool.and_false, Bool.false_and, zz, zzN, ↓reduceIte, Nat.reduceEqDiff, Nat.reduceBEq, Int.reduceLT, Int.reduceLE, Int.reduceToNat, Int.reduceEq, Int.reduceAdd, Int.reduceSub, Int.reduceMul, Int.reduceNeg, Nat.reduceMul, Nat.reduceSub, Nat.reduceLeDiff, Nat.reduceLT, Int.reduceGT, Int.reduceBEq, Int.reduceBNe, reduceCtorEq, Nat.reduceAdd, Ins.map, Fr.ev, argFr, argE, binEv, intEv, shEv, strEv, unEv, Fr.mark, evRes, tup, lenD, lookupD, loadD, partD, storeD, cellsD, cellOk, setAt, objNe, objSame, eqEv, readEv, buildD, buildRows, rowsOf, elemsOf]
def q38 : List D → Option D
  | [.str s] => if True then some (.bool (nameL s)) else none
  | _ => none
theorem q38_ok (args : List D) (d : D) (h : q38 args = some d) : PCall Try.prog 38 args d := by
  unfold q38 at h
  split at h
  · split at h
    · cases h; exact name_c _
    · cases h
  · cases h

def tb38 : Tab := tb25.addQ 38 q38
theorem tb38_q (g : FuncId) (args : List D) : tb38.q g args = if g = 38 then q38 args else tb25.q g args := rfl
theorem tb38_a : tb38.a = tb25.a := rfl
theorem tb38_c : tb38.c = tb25.c := rfl
theorem tb38_ok : tb38.ok Try.prog := Tab.addQ_ok tb25_ok q38_ok
theorem tb38_e : type_of% (And.intro (And.intro @tb38_q (And.intro @tb38_a @tb38_c)) @tb25_e) := (And.intro (And.intro @tb38_q (And.intro @tb38_a @tb38_c)) @tb25_e)

def q39 : List D → Option D
  | [.str s] => if True then some (.bool (nameL s)) else none
  | _ => none
theorem q39_ok (args : List D) (d : D) (h : q39 args = some d) : PCall Try.prog 39 args d := by
  unfold q39 at h
  split at h
  · split at h
    · cases h; exact rName_c _
    · cases h
  · cases h

def tb39 : Tab := tb38.addQ 39 q39
theorem tb39_q (g : FuncId) (args : List D) : tb39.q g args = if g = 39 then q39 args else tb38.q g args := rfl
theorem tb39_a : tb39.a = tb38.a := rfl
theorem tb39_c : tb39.c = tb38.c := rfl
theorem tb39_ok : tb39.ok Try.prog := Tab.addQ_ok tb38_ok q39_ok
theorem tb39_e : type_of% (And.intro (And.intro @tb39_q (And.intro @tb39_a @tb39_c)) @tb38_e) := (And.intro (And.intro @tb39_q (And.intro @tb39_a @tb39_c)) @tb38_e)

theorem lexNames_c (s : List UInt8) : PCall Try.prog 12 [.str s] (.bool true) := by
  refine PCall.run tb39_ok st12 (by simp) fun E => ?_
  simp (config := {maxSteps := 1000000}) only [s12, q25, q38, q39, q40, q41, tb39_e, Int.natCast_nonneg, Nat.le_refl, Int.le_refl, List.take_succ_cons, List.take_zero, decide_true, decide_false, Bool.and_false, Bool.false_and, zz, zzN, ↓reduceIte, Nat.reduceEqDiff, Nat.reduceBEq, Int.reduceLT, Int.reduceLE, Int.reduceToNat, Int.reduceEq, Int.reduceAdd, Int.reduceSub, Int.reduceMul, Int.reduceNeg, Nat.reduceMul, Nat.reduceSub, Nat.reduceLeDiff, Nat.reduceLT, Int.reduceGT, Int.reduceBEq, Int.reduceBNe, reduceCtorEq, Nat.reduceAdd, Ins.map, Fr.ev, argFr, argE, binEv, intEv, shEv, strEv, unEv, Fr.mark, evRes, tup, lenD, lookupD, loadD, partD, storeD, cellsD, cellOk, setAt, objNe, objSame, eqEv, readEv, buildD, buildRows, rowsOf, elemsOf]
end Go.Proofs.Ytaimobfakcompaa.Zz
