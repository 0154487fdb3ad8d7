/- The law of digits with a point. -/
import Derived.Test.YthpgepillaeldaaDoorZA15
import Derived.Test.YthpgepillaeldaaDoorZA5
namespace Go.Proofs.YthpgepillaeldaaDoor.Zz
noncomputable section
set_option linter.unusedVariables false
set_option linter.unusedSimpArgs false
set_option maxRecDepth 20000
def p7e : Plan := ⟨⟨[], [], [], [], [], []⟩, [(25, [0, 1, 2, 3, 4, 5, 6, 7, 8, 10, 9, 11, 12, 13, 14, 15, 16, 17, 18, 19, 20, 21, 22, 23, 24, 25, 26, 27, 28, 29, 30, 31, 32, 33, 34, 35, 36, 37, 38, 39, 40])]⟩
/-- cupel/cupellaw10.AstDigits (3 parameters, 0 captured) -/
def s7e : Stm :=
  .seq (.ops [⟨.mov (.c (.bool false)), (some 6), none, true⟩])
  (.seq (.ops [⟨.mov (.t 2), (some 20), none, true⟩,
     ⟨.bin .and (.t 20) (.c (.int .i64 7)), (some 21), none, true⟩,
     ⟨.bin .add (.t 21) (.c (.int .i64 1)), (some 22), none, true⟩,
     ⟨.mov (.t 22), (some 7), none, true⟩])
  (.seq (.ops [⟨.qcall (.f 26) [(.c (.int .u64 0)), (.c (.int .i64 0))], (some 23), none, false⟩,
     ⟨.mov (.t 23), (some 8), none, true⟩])
  (.seq (.ops [⟨.mov (.t 0), (some 24), none, true⟩,
     ⟨.bin .rem (.t 24) (.c (.int .u64 10000000)), (some 25), none, true⟩,
     ⟨.mov (.t 25), (some 9), none, true⟩])
  (.seq (.seq (.ops [⟨.mov (.c (.int .i64 0)), (some 10), none, true⟩])
   (.block 0 (.loop (.seq (.seq (.ops [⟨.mov (.t 10), (some 26), none, true⟩,
         ⟨.bin .lss (.t 26) (.c (.int .i64 7)), (some 27), none, true⟩])
      (.cond (.t 27)
       (.skip)
       (.exit 0)))
     (.seq (.block 1 (.seq (.ops [⟨.mov (.t 9), (some 30), none, true⟩,
          ⟨.bin .rem (.t 30) (.c (.int .u64 10)), (some 31), none, true⟩,
          ⟨.bin .add (.c (.int .u64 48)) (.t 31), (some 32), none, true⟩,
          ⟨.conv (.intInt .u8) (.t 32), (some 33), none, true⟩,
          ⟨.buildSlice 1 [(.int .u8 0)] 1 [(0, (.t 33))] false, (some 34), none, true⟩,
          ⟨.conv .bytesStr (.t 34), (some 35), none, false⟩,
          ⟨.mov (.t 8), (some 36), none, true⟩,
          ⟨.bin .add (.t 35) (.t 36), (some 37), none, true⟩,
          ⟨.mov (.t 37), (some 8), none, true⟩])
       (.ops [⟨.mov (.t 9), (some 38), none, true⟩,
         ⟨.bin .quo (.t 38) (.c (.int .u64 10)), (some 39), none, true⟩,
         ⟨.mov (.t 39), (some 9), none, true⟩])))
     (.ops [⟨.mov (.t 10), (some 28), none, true⟩,
       ⟨.bin .add (.t 28) (.c (.int .i64 1)), (some 29), none, true⟩,
       ⟨.mov (.t 29), (some 10), none, true⟩]))))))
  (.seq (.ops [⟨.mov (.t 8), (some 40), none, true⟩,
     ⟨.bin .add (.t 40) (.c (.str [46])), (some 41), none, true⟩,
     ⟨.mov (.t 41), (some 8), none, true⟩])
  (.seq (.ops [⟨.mov (.t 1), (some 42), none, true⟩,
     ⟨.mov (.t 42), (some 11), none, true⟩])
  (.seq (.seq (.ops [⟨.mov (.c (.int .i64 0)), (some 12), none, true⟩])
   (.block 2 (.loop (.seq (.seq (.ops [⟨.mov (.t 12), (some 43), none, true⟩,
         ⟨.mov (.t 7), (some 44), none, true⟩,
         ⟨.bin .lss (.t 43) (.t 44), (some 45), none, true⟩])
      (.cond (.t 45)
       (.skip)
       (.exit 2)))
     (.seq (.block 3 (.seq (.ops [⟨.mov (.t 8), (some 48), none, true⟩,
          ⟨.mov (.t 11), (some 49), none, true⟩,
          ⟨.bin .rem (.t 49) (.c (.int .u64 10)), (some 50), none, true⟩,
          ⟨.bin .add (.c (.int .u64 48)) (.t 50), (some 51), none, true⟩,
          ⟨.conv (.intInt .u8) (.t 51), (some 52), none, true⟩,
          ⟨.buildSlice 1 [(.int .u8 0)] 1 [(0, (.t 52))] false, (some 53), none, true⟩,
          ⟨.conv .bytesStr (.t 53), (some 54), none, false⟩,
          ⟨.bin .add (.t 48) (.t 54), (some 55), none, true⟩,
          ⟨.mov (.t 55), (some 8), none, true⟩])
       (.ops [⟨.mov (.t 11), (some 56), none, true⟩,
         ⟨.bin .quo (.t 56) (.c (.int .u64 10)), (some 57), none, true⟩,
         ⟨.mov (.t 57), (some 11), none, true⟩])))
     (.ops [⟨.mov (.t 12), (some 46), none, true⟩,
       ⟨.bin .add (.t 46) (.c (.int .i64 1)), (some 47), none, true⟩,
       ⟨.mov (.t 47), (some 12), none, true⟩]))))))
  (.seq (.ops [⟨.mov (.t 8), (some 58), none, true⟩,
     ⟨.qcall (.f 27) [(.t 58)], (some 59), none, false⟩,
     ⟨.mov (.t 59), (some 13), none, true⟩])
  (.seq (.ops [⟨.mov (.t 13), (some 61), none, true⟩,
     ⟨.qcall (.f 28) [(.t 61)], (some 62), none, false⟩,
     ⟨.mov (.t 62), (some 60), none, true⟩,
     ⟨.extract (.t 60) 0, (some 63), none, true⟩,
     ⟨.extract (.t 60) 1, (some 64), none, true⟩,
     ⟨.mov (.t 63), (some 14), none, true⟩,
     ⟨.mov (.t 64), (some 15), none, true⟩])
  (.seq (.ops [⟨.mov (.c (.int .i64 1)), (some 16), none, true⟩])
  (.seq (.seq (.ops [⟨.mov (.c (.int .i64 0)), (some 17), none, true⟩])
   (.block 4 (.loop (.seq (.seq (.ops [⟨.mov (.t 17), (some 65), none, true⟩,
         ⟨.mov (.t 15), (some 66), none, true⟩,
         ⟨.bin .lss (.t 65) (.t 66), (some 67), none, true⟩])
      (.cond (.t 67)
       (.skip)
       (.exit 4)))
     (.seq (.block 5 (.ops [⟨.mov (.t 16), (some 70), none, true⟩,
         ⟨.bin .mul (.t 70) (.c (.int .i64 10)), (some 71), none, true⟩,
         ⟨.mov (.t 71), (some 16), none, true⟩]))
     (.ops [⟨.mov (.t 17), (some 68), none, true⟩,
       ⟨.bin .add (.t 68) (.c (.int .i64 1)), (some 69), none, true⟩,
       ⟨.mov (.t 69), (some 17), none, true⟩]))))))
  (.seq (.ops [⟨.mov (.t 13), (some 72), none, true⟩,
     ⟨.qcall (.f 30) [(.t 72)], (some 73), none, false⟩,
     ⟨.conv (.intInt .u64) (.t 73), (some 74), none, true⟩,
     ⟨.qcall (.f 29) [(.t 74)], (some 75), none, false⟩,
     ⟨.mov (.t 75), (some 18), none, true⟩])
  (.seq (.ops [⟨.mov (.t 8), (some 76), none, true⟩,
     ⟨.qcall (.f 31) [(.t 76)], (some 77), none, false⟩,
     ⟨.alloc [(.int .i64 0), (.int .i64 0), (.str []), (.int .i64 0), .nilsl], (some 19), none, false⟩,
     ⟨.store 5 (.t 19) (.t 77), none, none, false⟩])
  (.seq (.ops [⟨.qcall (.f 12) [], (some 78), none, false⟩,
     ⟨.mov (.t 78), (some 79), none, true⟩,
     ⟨.mov (.t 13), (some 80), (some (79, true)), true⟩,
     ⟨.mov (.t 8), (some 81), (some (79, true)), true⟩,
     ⟨.qcall (.f 32) [(.t 81)], (some 82), (some (79, true)), false⟩,
     ⟨.bin .eql (.t 80) (.t 82), (some 83), (some (79, true)), true⟩,
     ⟨.pick (.t 79) (.t 83) (.c (.bool false)), (some 84), none, true⟩,
     ⟨.mov (.t 84), (some 85), none, true⟩,
     ⟨.mov (.t 13), (some 86), (some (85, true)), true⟩,
     ⟨.mov (.t 13), (some 88), (some (85, true)), true⟩,
     ⟨.qcall (.f 27) [(.t 86)], (some 87), (some (85, true)), false⟩,
     ⟨.bin .eql (.t 87) (.t 88), (some 89), (some (85, true)), true⟩,
     ⟨.pick (.t 85) (.t 89) (.c (.bool false)), (some 90), none, true⟩,
     ⟨.mov (.t 90), (some 91), none, true⟩,
     ⟨.mov (.t 18), (some 92), (some (91, true)), true⟩,
     ⟨.mov (.t 14), (some 93), (some (91, true)), true⟩,
     ⟨.conv .intFloat (.t 93), (some 94), (some (91, true)), true⟩,
     ⟨.mov (.t 16), (some 95), (some (91, true)), true⟩,
     ⟨.conv .intFloat (.t 95), (some 96), (some (91, true)), true⟩,
     ⟨.farith .quo (.t 94) (.t 96), (some 97), (some (91, true)), false⟩,
     ⟨.bin .eql (.t 92) (.t 97), (some 98), (some (91, true)), true⟩,
     ⟨.pick (.t 91) (.t 98) (.c (.bool false)), (some 99), none, true⟩,
     ⟨.mov (.t 99), (some 100), none, true⟩,
     ⟨.fieldAddr 2 (.t 19), (some 101), (some (100, true)), true⟩,
     ⟨.load none (.t 101), (some 102), (some (100, true)), false⟩,
     ⟨.mov (.t 13), (some 103), (some (100, true)), true⟩,
     ⟨.bin .eql (.t 102) (.t 103), (some 104), (some (100, true)), true⟩,
     ⟨.pick (.t 100) (.t 104) (.c (.bool false)), (some 105), none, true⟩,
     ⟨.mov (.t 105), (some 106), none, true⟩,
     ⟨.fieldAddr 3 (.t 19), (some 107), (some (106, true)), true⟩,
     ⟨.load none (.t 107), (some 108), (some (106, true)), false⟩,
     ⟨.mov (.t 13), (some 109), (some (106, true)), true⟩,
     ⟨.qcall (.f 30) [(.t 109)], (some 110), (some (106, true)), false⟩,
     ⟨.bin .eql (.t 108) (.t 110), (some 111), (some (106, true)), true⟩,
     ⟨.pick (.t 106) (.t 111) (.c (.bool false)), (some 112), none, true⟩,
     ⟨.mov (.t 112), (some 113), none, true⟩,
     ⟨.fieldAddr 0 (.t 19), (some 114), (some (113, true)), true⟩,
     ⟨.load none (.t 114), (some 115), (some (113, true)), false⟩,
     ⟨.bin .eql (.t 115) (.c (.int .i64 21)), (some 116), (some (113, true)), true⟩,
     ⟨.pick (.t 113) (.t 116) (.c (.bool false)), (some 117), none, true⟩,
     ⟨.mov (.t 117), (some 6), none, true⟩])
  (.ret)))))))))))))))
theorem st7e : stmOf Tryd.prog 7 p7e = some (s7e, [.tmp 6], 118) := by kernel_rfl

def p26e : Plan := ⟨⟨[], [], [], [], [], []⟩, []⟩
/-- cupel/cupelref02.Number (2 parameters, 0 captured) -/
def s26e : Stm :=
  .seq (.ops [⟨.mov (.c (.str [])), (some 4), none, true⟩])
  (.seq (.ops [⟨.mov (.c (.str [])), (some 5), none, true⟩])
  (.seq (.seq (.ops [⟨.mov (.c (.int .i64 0)), (some 6), none, true⟩])
   (.block 0 (.loop (.seq (.seq (.ops [⟨.mov (.t 6), (some 7), none, true⟩,
         ⟨.mov (.t 1), (some 8), none, true⟩,
         ⟨.bin .lss (.t 7) (.t 8), (some 9), none, true⟩,
         ⟨.mov (.t 9), (some 10), none, true⟩,
         ⟨.mov (.t 6), (some 11), (some (10, true)), true⟩,
         ⟨.bin .lss (.t 11) (.c (.int .i64 8)), (some 12), (some (10, true)), true⟩,
         ⟨.pick (.t 10) (.t 12) (.c (.bool false)), (some 13), none, true⟩])
      (.cond (.t 13)
       (.skip)
       (.exit 0)))
     (.seq (.block 1 (.seq (.ops [⟨.mov (.t 5), (some 16), none, true⟩,
          ⟨.mov (.t 0), (some 17), none, true⟩,
          ⟨.bin .rem (.t 17) (.c (.int .u64 256)), (some 18), none, true⟩,
          ⟨.conv (.intInt .u8) (.t 18), (some 19), none, true⟩,
          ⟨.buildSlice 1 [(.int .u8 0)] 1 [(0, (.t 19))] false, (some 20), none, true⟩,
          ⟨.conv .bytesStr (.t 20), (some 21), none, false⟩,
          ⟨.bin .add (.t 16) (.t 21), (some 22), none, true⟩,
          ⟨.mov (.t 22), (some 5), none, true⟩])
       (.ops [⟨.mov (.t 0), (some 23), none, true⟩,
         ⟨.bin .quo (.t 23) (.c (.int .u64 256)), (some 24), none, true⟩,
         ⟨.mov (.t 24), (some 0), none, true⟩])))
     (.ops [⟨.mov (.t 6), (some 14), none, true⟩,
       ⟨.bin .add (.t 14) (.c (.int .i64 1)), (some 15), none, true⟩,
       ⟨.mov (.t 15), (some 6), none, true⟩]))))))
  (.seq (.ops [⟨.mov (.t 5), (some 25), none, true⟩,
     ⟨.mov (.t 25), (some 4), none, true⟩])
  (.ret))))
theorem st26e : stmOf Tryd.prog 26 p26e = some (s26e, [.tmp 4], 26) := by kernel_rfl

def p28e : Plan := ⟨⟨[], [], [], [], [], []⟩, []⟩
/-- cupel/cupelref10.Parts (1 parameters, 0 captured) -/
def s28e : Stm :=
  .seq (.ops [⟨.mov (.c (.int .i64 0)), (some 2), none, true⟩,
     ⟨.mov (.c (.int .i64 0)), (some 3), none, true⟩])
  (.seq (.ops [⟨.mov (.c (.int .i64 0)), (some 4), none, true⟩,
     ⟨.mov (.c (.int .i64 0)), (some 5), none, true⟩,
     ⟨.mov (.c (.bool false)), (some 6), none, true⟩])
  (.seq (.seq (.ops [⟨.mov (.c (.int .i64 0)), (some 7), none, true⟩])
   (.block 0 (.loop (.seq (.seq (.ops [⟨.mov (.t 7), (some 8), none, true⟩,
         ⟨.mov (.t 0), (some 9), none, true⟩,
         ⟨.len .str (.t 9), (some 10), none, false⟩,
         ⟨.bin .lss (.t 8) (.t 10), (some 11), none, true⟩])
      (.cond (.t 11)
       (.skip)
       (.exit 0)))
     (.seq (.block 1 (.seq (.seq (.ops [⟨.mov (.t 0), (some 14), none, true⟩,
           ⟨.mov (.t 7), (some 15), none, true⟩,
           ⟨.indexS (.t 14) (.t 15), (some 16), none, true⟩,
           ⟨.bin .eql (.t 16) (.c (.int .u8 46)), (some 17), none, true⟩])
        (.cond (.t 17)
         (.seq (.ops [⟨.mov (.c (.bool true)), (some 6), none, true⟩])
          (.exit 1))
         (.skip)))
       (.seq (.ops [⟨.mov (.t 4), (some 18), none, true⟩,
          ⟨.bin .mul (.t 18) (.c (.int .i64 10)), (some 19), none, true⟩,
          ⟨.mov (.t 0), (some 20), none, true⟩,
          ⟨.mov (.t 7), (some 21), none, true⟩,
          ⟨.indexS (.t 20) (.t 21), (some 22), none, true⟩,
          ⟨.bin .sub (.t 22) (.c (.int .u8 48)), (some 23), none, true⟩,
          ⟨.conv (.intInt .i64) (.t 23), (some 24), none, true⟩,
          ⟨.bin .add (.t 19) (.t 24), (some 25), none, true⟩,
          ⟨.mov (.t 25), (some 4), none, true⟩])
       (.seq (.ops [⟨.mov (.t 6), (some 26), none, true⟩])
       (.cond (.t 26)
        (.ops [⟨.mov (.t 5), (some 27), none, true⟩,
           ⟨.bin .add (.t 27) (.c (.int .i64 1)), (some 28), none, true⟩,
           ⟨.mov (.t 28), (some 5), none, true⟩])
        (.skip))))))
     (.ops [⟨.mov (.t 7), (some 12), none, true⟩,
       ⟨.bin .add (.t 12) (.c (.int .i64 1)), (some 13), none, true⟩,
       ⟨.mov (.t 13), (some 7), none, true⟩]))))))
  (.seq (.ops [⟨.mov (.t 4), (some 29), none, true⟩,
     ⟨.mov (.t 5), (some 30), none, true⟩,
     ⟨.mov (.t 29), (some 2), none, true⟩,
     ⟨.mov (.t 30), (some 3), none, true⟩])
  (.ret))))
theorem st28e : stmOf Tryd.prog 28 p28e = some (s28e, [.tmp 2, .tmp 3], 31) := by kernel_rfl

def p32e : Plan := ⟨⟨[], [], [], [], [], []⟩, []⟩
/-- cupel/cupelref10.Digits (1 parameters, 0 captured) -/
def s32e : Stm :=
  .seq (.ops [⟨.mov (.c (.str [])), (some 2), none, true⟩])
  (.seq (.ops [⟨.mov (.c (.int .i64 0)), (some 3), none, true⟩])
  (.seq (.block 0 (.loop (.seq (.seq (.ops [⟨.mov (.t 3), (some 6), none, true⟩,
         ⟨.mov (.t 0), (some 7), none, true⟩,
         ⟨.len .str (.t 7), (some 8), none, false⟩,
         ⟨.bin .lss (.t 6) (.t 8), (some 9), none, true⟩,
         ⟨.mov (.t 9), (some 10), none, true⟩,
         ⟨.mov (.t 0), (some 11), (some (10, true)), true⟩,
         ⟨.mov (.t 3), (some 12), (some (10, true)), true⟩,
         ⟨.indexS (.t 11) (.t 12), (some 13), (some (10, true)), true⟩,
         ⟨.bin .neq (.t 13) (.c (.int .u8 46)), (some 14), (some (10, true)), true⟩,
         ⟨.pick (.t 10) (.t 14) (.c (.bool false)), (some 15), none, true⟩])
      (.cond (.t 15)
       (.skip)
       (.exit 0)))
     (.block 1 (.ops [⟨.mov (.t 3), (some 16), none, true⟩,
        ⟨.bin .add (.t 16) (.c (.int .i64 1)), (some 17), none, true⟩,
        ⟨.mov (.t 17), (some 3), none, true⟩])))))
  (.seq (.ops [⟨.mov (.c (.int .i64 0)), (some 4), none, true⟩])
  (.seq (.block 2 (.loop (.seq (.seq (.ops [⟨.mov (.t 4), (some 18), none, true⟩,
         ⟨.bin .add (.t 18) (.c (.int .i64 1)), (some 19), none, true⟩,
         ⟨.mov (.t 3), (some 20), none, true⟩,
         ⟨.bin .lss (.t 19) (.t 20), (some 21), none, true⟩,
         ⟨.mov (.t 21), (some 22), none, true⟩,
         ⟨.mov (.t 0), (some 23), (some (22, true)), true⟩,
         ⟨.mov (.t 4), (some 24), (some (22, true)), true⟩,
         ⟨.indexS (.t 23) (.t 24), (some 25), (some (22, true)), true⟩,
         ⟨.bin .eql (.t 25) (.c (.int .u8 48)), (some 26), (some (22, true)), true⟩,
         ⟨.pick (.t 22) (.t 26) (.c (.bool false)), (some 27), none, true⟩])
      (.cond (.t 27)
       (.skip)
       (.exit 2)))
     (.block 3 (.ops [⟨.mov (.t 4), (some 28), none, true⟩,
        ⟨.bin .add (.t 28) (.c (.int .i64 1)), (some 29), none, true⟩,
        ⟨.mov (.t 29), (some 4), none, true⟩])))))
  (.seq (.ops [⟨.mov (.t 0), (some 30), none, true⟩,
     ⟨.len .str (.t 30), (some 31), none, false⟩,
     ⟨.mov (.t 31), (some 5), none, true⟩])
  (.seq (.block 4 (.loop (.seq (.seq (.ops [⟨.mov (.t 5), (some 32), none, true⟩,
         ⟨.mov (.t 3), (some 33), none, true⟩,
         ⟨.bin .add (.t 33) (.c (.int .i64 2)), (some 34), none, true⟩,
         ⟨.bin .gtr (.t 32) (.t 34), (some 35), none, true⟩,
         ⟨.mov (.t 35), (some 36), none, true⟩,
         ⟨.mov (.t 0), (some 37), (some (36, true)), true⟩,
         ⟨.mov (.t 5), (some 38), (some (36, true)), true⟩,
         ⟨.bin .sub (.t 38) (.c (.int .i64 1)), (some 39), (some (36, true)), true⟩,
         ⟨.indexS (.t 37) (.t 39), (some 40), (some (36, true)), true⟩,
         ⟨.bin .eql (.t 40) (.c (.int .u8 48)), (some 41), (some (36, true)), true⟩,
         ⟨.pick (.t 36) (.t 41) (.c (.bool false)), (some 42), none, true⟩])
      (.cond (.t 42)
       (.skip)
       (.exit 4)))
     (.block 5 (.ops [⟨.mov (.t 5), (some 43), none, true⟩,
        ⟨.bin .sub (.t 43) (.c (.int .i64 1)), (some 44), none, true⟩,
        ⟨.mov (.t 44), (some 5), none, true⟩])))))
  (.seq (.ops [⟨.mov (.t 0), (some 45), none, true⟩,
     ⟨.mov (.t 4), (some 46), none, true⟩,
     ⟨.mov (.t 5), (some 47), none, true⟩,
     ⟨.slice .str (.t 45) (some (.t 46)) (some (.t 47)) none, (some 48), none, false⟩,
     ⟨.mov (.t 48), (some 2), none, true⟩])
  (.ret))))))))
theorem st32e : stmOf Tryd.prog 32 p32e = some (s32e, [.tmp 2], 49) := by kernel_rfl

theorem num0_c : PCall Tryd.prog 26 [.int .u64 0, .int .i64 0] (.str []) := by
  refine PCall.run (Tab.zero_ok _) st26e (by simp) fun E => ?_
  simp only [s26e, i_callNe, keptAt, Int.natCast_nonneg, Nat.le_refl, Int.le_refl, List.take_succ_cons, List.take_zero, decide_true, decide_false, Bool.and_false, Bool.false_and, zz, zzN, zzF, fltEv, isArithF, ↓reduceIte, Nat.reduceEqDiff, Nat.reduceBEq, Int.reduceLT, Int.reduceLE, Int.reduceToNat, Int.reduceEq, Int.reduceAdd, Int.reduceSub, Int.reduceMul, Int.reduceNeg, Nat.reduceMul, Nat.reduceSub, Nat.reduceLeDiff, Nat.reduceLT, Int.reduceGT, Int.reduceGE, Int.reduceBEq, Int.reduceBNe, reduceCtorEq, Nat.reduceAdd, Ins.map, Fr.ev, argFr, argE, binEv, intEv, shEv, strEv, unEv, Fr.mark, evRes, tup, lenD, lookupD, loadD, partD, storeD, cellsD, cellOk, setAt, objNe, objSame, eqEv, readEv, lent_bool, lent_int, lent_float, lent_str, lent_agg, lent_tuple, lent_sl, lent_func, lent_iface, lent_nilif, lent_same, buildD, buildRows, rowsOf, elemsOf, normX, unnil, isNil, List.any_cons, List.any_nil, List.map_cons, List.map_nil, Bool.or_false, Bool.false_or, Bool.or_true, Bool.true_or, cond_true, cond_false]
  refine run_rounds 1 ?_
  simp only [rounds_succ, i_callNe, keptAt, Int.natCast_nonneg, Nat.le_refl, Int.le_refl, List.take_succ_cons, List.take_zero, decide_true, decide_false, Bool.and_false, Bool.false_and, zz, zzN, zzF, fltEv, isArithF, ↓reduceIte, Nat.reduceEqDiff, Nat.reduceBEq, Int.reduceLT, Int.reduceLE, Int.reduceToNat, Int.reduceEq, Int.reduceAdd, Int.reduceSub, Int.reduceMul, Int.reduceNeg, Nat.reduceMul, Nat.reduceSub, Nat.reduceLeDiff, Nat.reduceLT, Int.reduceGT, Int.reduceGE, Int.reduceBEq, Int.reduceBNe, reduceCtorEq, Nat.reduceAdd, Ins.map, Fr.ev, argFr, argE, binEv, intEv, shEv, strEv, unEv, Fr.mark, evRes, tup, lenD, lookupD, loadD, partD, storeD, cellsD, cellOk, setAt, objNe, objSame, eqEv, readEv, lent_bool, lent_int, lent_float, lent_str, lent_agg, lent_tuple, lent_sl, lent_func, lent_iface, lent_nilif, lent_same, buildD, buildRows, rowsOf, elemsOf, normX, unnil, isNil, List.any_cons, List.any_nil, List.map_cons, List.map_nil, Bool.or_false, Bool.false_or, Bool.or_true, Bool.true_or, cond_true, cond_false]
theorem dig_ne {c : UInt8} (h : isDig c = true) : (c == 46) = false := by
  simp only [isDig, Bool.and_eq_true, decide_eq_true_eq] at h
  simp only [beq_eq_false_iff_ne]
  intro e
  rw [e] at h
  exact absurd h.1 (by decide)
/-- A nought ahead is passed over, up to the last digit. -/
theorem drop_zeros : ∀ (i : Nat) (A : List UInt8), (A.take i).all (· == 48) = true → i < A.length → (i + 1 < A.length → (A.getD i 0 == 48) = false) → A.drop i = orZero (Lib.trimLeftB A 48)
  | _, [], _, h, _ => by simp at h
  | 0, a :: A, _, _, h => by
    by_cases c : (a == 48) = true
    · have : A = [] := by
        by_cases h0 : A = []
        · exact h0
        · have := h (by have := List.length_pos_iff.2 h0; simp; omega)
          simp at this; simp at c; exact absurd c this
      subst this
      have : a = 48 := by simpa using c
      subst this
      rfl
    · have c' : (a == 48) = false := by simpa using c
      unfold Lib.trimLeftB
      rw [List.dropWhile_cons_of_neg (by simp [c']), orZero_f (by simp)]
      rfl
  | i + 1, a :: A, h1, h2, h3 => by
    simp only [List.take_succ_cons, List.all_cons, Bool.and_eq_true] at h1
    have ih := drop_zeros i A h1.2 (by simpa using h2) (fun h => by have := h3 (by simp; omega); simpa using this)
    unfold Lib.trimLeftB at ih ⊢
    have c : (a == 48) = true := h1.1
    simp only [List.dropWhile_cons, c, if_true, List.drop_succ_cons]
    exact ih
/-- A nought at the end is passed over, up to the first digit. -/
theorem take_zeros (B : List UInt8) (j : Nat) (h1 : (B.drop j).all (· == 48) = true) (h2 : 1 ≤ j) (h3 : j ≤ B.length) (h4 : 1 < j → (B.getD (j - 1) 0 == 48) = false) : B.take j = orZero (Lib.trimRightB B 48) := by
  have key := drop_zeros (B.length - j) B.reverse (by rw [List.take_reverse, List.all_reverse, show B.length - (B.length - j) = j by omega]; exact h1) (by simp; omega) (fun h => by
    have := h4 (by simp at h; omega)
    simp only [List.getD_eq_getElem?_getD] at this ⊢
    rw [List.getElem?_reverse (by omega)]
    rw [show B.length - 1 - (B.length - j) = j - 1 by omega]
    exact this)
  rw [List.drop_reverse, show B.length - (B.length - j) = j by omega] at key
  have : B.take j = (orZero (Lib.trimLeftB B.reverse 48)).reverse := by rw [← key, List.reverse_reverse]
  rw [this]
  unfold Lib.trimRightB orZero Lib.trimLeftB
  by_cases c : (List.dropWhile (fun x => x == 48) B.reverse == []) = true
  · have c2e : ((List.dropWhile (fun x => x == 48) B.reverse).reverse == []) = true := by simp at c ⊢; exact c
    rw [if_pos c, if_pos c2e]
    rfl
  · have c2e : ¬ ((List.dropWhile (fun x => x == 48) B.reverse).reverse == []) = true := by simp at c ⊢; exact c
    rw [if_neg c, if_neg c2e]
theorem eq_byte (c : UInt8) (k : Nat) (hk : k < 256) : ((c.toNat : Int) == (k : Int)) = (c == UInt8.ofNat k) := by
  rw [Bool.eq_iff_iff]
  simp only [beq_iff_eq]
  constructor
  · intro h
    have : c.toNat = k := by omega
    apply UInt8.toNat_inj.1
    rw [this]; simp; omega
  · intro h
    rw [h]; simp; omega
theorem eq48 (c : UInt8) : ((c.toNat : Int) == 48) = (c == 48) := eq_byte c 48 (by decide)
theorem eq46 (c : UInt8) : ((c.toNat : Int) == 46) = (c == 46) := eq_byte c 46 (by decide)
theorem ne46 (c : UInt8) : ((c.toNat : Int) != 46) = !(c == 46) := by rw [← eq46]; rfl
theorem rdigits_c (s A B : List UInt8) (h : Dotted s A B) : PCall Tryd.prog 32 [.str s] (.str (digF s)) := by
  refine PCall.run (Tab.zero_ok _) st32e (by simp) fun E => ?_
  have hd := digF_dot A B h.a
  rw [← h.eq] at hd
  rw [hd]
  have hl : s.length = A.length + 1 + B.length := by rw [h.eq]; simp; omega
  have hlen := h.len
  have a1 := h.a1
  have b1 := h.b1
  have gA : ∀ i, i < A.length → s.getD i 0 = A.getD i 0 := fun i hi => by
    rw [h.eq, List.append_assoc]; simp only [List.getD_eq_getElem?_getD]; rw [List.getElem?_append_left hi]
  have gD : s.getD A.length 0 = 46 := by
    rw [h.eq, List.append_assoc]; simp only [List.getD_eq_getElem?_getD]; rw [List.getElem?_append_right (Nat.le_refl _)]; simp
  have gB : ∀ j, s.getD (A.length + 1 + j) 0 = B.getD j 0 := fun j => by
    rw [h.eq]; simp only [List.getD_eq_getElem?_getD]; rw [List.getElem?_append_right (by simp)]; simp
  have dA : ∀ i, i < A.length → isDig (A.getD i 0) = true := fun i hi => by
    have := h.a
    rw [List.all_eq_true] at this
    refine this _ ?_
    simp only [List.getD_eq_getElem?_getD, List.getElem?_eq_getElem hi, Option.getD_some]
    exact List.getElem_mem hi
  simp only [s32e, i_callNe, keptAt, Int.natCast_nonneg, Nat.le_refl, Int.le_refl, List.take_succ_cons, List.take_zero, decide_true, decide_false, Bool.and_false, Bool.false_and, zz, zzN, zzF, fltEv, isArithF, ↓reduceIte, Nat.reduceEqDiff, Nat.reduceBEq, Int.reduceLT, Int.reduceLE, Int.reduceToNat, Int.reduceEq, Int.reduceAdd, Int.reduceSub, Int.reduceMul, Int.reduceNeg, Nat.reduceMul, Nat.reduceSub, Nat.reduceLeDiff, Nat.reduceLT, Int.reduceGT, Int.reduceGE, Int.reduceBEq, Int.reduceBNe, reduceCtorEq, Nat.reduceAdd, Ins.map, Fr.ev, argFr, argE, binEv, intEv, shEv, strEv, unEv, Fr.mark, evRes, tup, lenD, lookupD, loadD, partD, storeD, cellsD, cellOk, setAt, objNe, objSame, eqEv, readEv, lent_bool, lent_int, lent_float, lent_str, lent_agg, lent_tuple, lent_sl, lent_func, lent_iface, lent_nilif, lent_same, buildD, buildRows, rowsOf, elemsOf, normX, unnil, isNil, List.any_cons, List.any_nil, List.map_cons, List.map_nil, Bool.or_false, Bool.false_or, Bool.or_true, Bool.true_or, cond_true, cond_false]
  refine run_loop (X := Nat) (fun i => [(0, .str s), (3, .int .i64 i)]) (fun _ => .emp) (fun i => A.length - i) (fun i => i ≤ A.length) 0 (Nat.zero_le _) (by simp only [i_callNe, keptAt, Int.natCast_nonneg, Nat.le_refl, Int.le_refl, List.take_succ_cons, List.take_zero, decide_true, decide_false, Bool.and_false, Bool.false_and, zz, zzN, zzF, fltEv, isArithF, ↓reduceIte, Nat.reduceEqDiff, Nat.reduceBEq, Int.reduceLT, Int.reduceLE, Int.reduceToNat, Int.reduceEq, Int.reduceAdd, Int.reduceSub, Int.reduceMul, Int.reduceNeg, Nat.reduceMul, Nat.reduceSub, Nat.reduceLeDiff, Nat.reduceLT, Int.reduceGT, Int.reduceGE, Int.reduceBEq, Int.reduceBNe, reduceCtorEq, Nat.reduceAdd, Ins.map, Fr.ev, argFr, argE, binEv, intEv, shEv, strEv, unEv, Fr.mark, evRes, tup, lenD, lookupD, loadD, partD, storeD, cellsD, cellOk, setAt, objNe, objSame, eqEv, readEv, lent_bool, lent_int, lent_float, lent_str, lent_agg, lent_tuple, lent_sl, lent_func, lent_iface, lent_nilif, lent_same, buildD, buildRows, rowsOf, elemsOf, normX, unnil, isNil, List.any_cons, List.any_nil, List.map_cons, List.map_nil, Bool.or_false, Bool.false_or, Bool.or_true, Bool.true_or, cond_true, cond_false]) sub_emp ?_
  intro i Q hi hQ
  have g1 : ((i : Int) < (s.length : Int)) = True := eq_true (by omega)
  by_cases c : i < A.length
  · have e1 := gA i c
    have e2 := dig_ne (dA i c)
    have wi : IntKind.i64.wrap ((i : Int) + 1) = ((i + 1 : Nat) : Int) := wrap_succ (by omega)
    simp only [g1, e1, e2, ne46, wi, i_callNe, keptAt, Int.natCast_nonneg, Nat.le_refl, Int.le_refl, List.take_succ_cons, List.take_zero, decide_true, decide_false, Bool.and_false, Bool.false_and, zz, zzN, zzF, fltEv, isArithF, ↓reduceIte, Nat.reduceEqDiff, Nat.reduceBEq, Int.reduceLT, Int.reduceLE, Int.reduceToNat, Int.reduceEq, Int.reduceAdd, Int.reduceSub, Int.reduceMul, Int.reduceNeg, Nat.reduceMul, Nat.reduceSub, Nat.reduceLeDiff, Nat.reduceLT, Int.reduceGT, Int.reduceGE, Int.reduceBEq, Int.reduceBNe, reduceCtorEq, Nat.reduceAdd, Ins.map, Fr.ev, argFr, argE, binEv, intEv, shEv, strEv, unEv, Fr.mark, evRes, tup, lenD, lookupD, loadD, partD, storeD, cellsD, cellOk, setAt, objNe, objSame, eqEv, readEv, lent_bool, lent_int, lent_float, lent_str, lent_agg, lent_tuple, lent_sl, lent_func, lent_iface, lent_nilif, lent_same, buildD, buildRows, rowsOf, elemsOf, normX, unnil, isNil, List.any_cons, List.any_nil, List.map_cons, List.map_nil, Bool.or_false, Bool.false_or, Bool.or_true, Bool.true_or, cond_true, cond_false]
    intro _
    exact hQ (i + 1) _ _ (by omega) (by simp only [i_callNe, keptAt, Int.natCast_nonneg, Nat.le_refl, Int.le_refl, List.take_succ_cons, List.take_zero, decide_true, decide_false, Bool.and_false, Bool.false_and, zz, zzN, zzF, fltEv, isArithF, ↓reduceIte, Nat.reduceEqDiff, Nat.reduceBEq, Int.reduceLT, Int.reduceLE, Int.reduceToNat, Int.reduceEq, Int.reduceAdd, Int.reduceSub, Int.reduceMul, Int.reduceNeg, Nat.reduceMul, Nat.reduceSub, Nat.reduceLeDiff, Nat.reduceLT, Int.reduceGT, Int.reduceGE, Int.reduceBEq, Int.reduceBNe, reduceCtorEq, Nat.reduceAdd, Ins.map, Fr.ev, argFr, argE, binEv, intEv, shEv, strEv, unEv, Fr.mark, evRes, tup, lenD, lookupD, loadD, partD, storeD, cellsD, cellOk, setAt, objNe, objSame, eqEv, readEv, lent_bool, lent_int, lent_float, lent_str, lent_agg, lent_tuple, lent_sl, lent_func, lent_iface, lent_nilif, lent_same, buildD, buildRows, rowsOf, elemsOf, normX, unnil, isNil, List.any_cons, List.any_nil, List.map_cons, List.map_nil, Bool.or_false, Bool.false_or, Bool.or_true, Bool.true_or, cond_true, cond_false]) sub_emp (by omega)
  · have e0 : i = A.length := by omega
    subst e0
    have e2 : ((46 : UInt8) == 46) = true := rfl
    simp only [g1, gD, e2, ne46, Bool.not_true, i_callNe, keptAt, Int.natCast_nonneg, Nat.le_refl, Int.le_refl, List.take_succ_cons, List.take_zero, decide_true, decide_false, Bool.and_false, Bool.false_and, zz, zzN, zzF, fltEv, isArithF, ↓reduceIte, Nat.reduceEqDiff, Nat.reduceBEq, Int.reduceLT, Int.reduceLE, Int.reduceToNat, Int.reduceEq, Int.reduceAdd, Int.reduceSub, Int.reduceMul, Int.reduceNeg, Nat.reduceMul, Nat.reduceSub, Nat.reduceLeDiff, Nat.reduceLT, Int.reduceGT, Int.reduceGE, Int.reduceBEq, Int.reduceBNe, reduceCtorEq, Nat.reduceAdd, Ins.map, Fr.ev, argFr, argE, binEv, intEv, shEv, strEv, unEv, Fr.mark, evRes, tup, lenD, lookupD, loadD, partD, storeD, cellsD, cellOk, setAt, objNe, objSame, eqEv, readEv, lent_bool, lent_int, lent_float, lent_str, lent_agg, lent_tuple, lent_sl, lent_func, lent_iface, lent_nilif, lent_same, buildD, buildRows, rowsOf, elemsOf, normX, unnil, isNil, List.any_cons, List.any_nil, List.map_cons, List.map_nil, Bool.or_false, Bool.false_or, Bool.or_true, Bool.true_or, cond_true, cond_false]
    intro _
    have hz : (A.take 0).all (· == 48) = true := rfl
    refine run_loop (X := Nat) (fun i => [(0, .str s), (3, .int .i64 A.length), (4, .int .i64 i)]) (fun _ => .emp) (fun i => A.length - i) (fun i => i < A.length ∧ (A.take i).all (· == 48) = true) 0 ⟨by omega, hz⟩ (by simp only [i_callNe, keptAt, Int.natCast_nonneg, Nat.le_refl, Int.le_refl, List.take_succ_cons, List.take_zero, decide_true, decide_false, Bool.and_false, Bool.false_and, zz, zzN, zzF, fltEv, isArithF, ↓reduceIte, Nat.reduceEqDiff, Nat.reduceBEq, Int.reduceLT, Int.reduceLE, Int.reduceToNat, Int.reduceEq, Int.reduceAdd, Int.reduceSub, Int.reduceMul, Int.reduceNeg, Nat.reduceMul, Nat.reduceSub, Nat.reduceLeDiff, Nat.reduceLT, Int.reduceGT, Int.reduceGE, Int.reduceBEq, Int.reduceBNe, reduceCtorEq, Nat.reduceAdd, Ins.map, Fr.ev, argFr, argE, binEv, intEv, shEv, strEv, unEv, Fr.mark, evRes, tup, lenD, lookupD, loadD, partD, storeD, cellsD, cellOk, setAt, objNe, objSame, eqEv, readEv, lent_bool, lent_int, lent_float, lent_str, lent_agg, lent_tuple, lent_sl, lent_func, lent_iface, lent_nilif, lent_same, buildD, buildRows, rowsOf, elemsOf, normX, unnil, isNil, List.any_cons, List.any_nil, List.map_cons, List.map_nil, Bool.or_false, Bool.false_or, Bool.or_true, Bool.true_or, cond_true, cond_false]) sub_emp ?_
    clear hQ Q g1 c e2 hz
    intro i Q hi hQ
    obtain ⟨hi, hz⟩ := hi
    have wi : IntKind.i64.wrap ((i : Int) + 1) = ((i + 1 : Nat) : Int) := wrap_succ (by omega)
    have g0 : (0 ≤ (i : Int)) = True := eq_true (by omega)
    have g2 : ((i : Int) < (s.length : Int)) = True := eq_true (by omega)
    have e1 := gA i hi
    cases c : (decide (i + 1 < A.length) && (A.getD i 0 == 48)) with
    | true =>
      simp only [Bool.and_eq_true, decide_eq_true_eq] at c
      obtain ⟨c1e, c2e⟩ := c
      have g1 : (((i + 1 : Nat) : Int) < (A.length : Int)) = True := eq_true (by omega)
      simp only [g0, g1, g2, e1, c2e, eq48, wi, i_callNe, keptAt, Int.natCast_nonneg, Nat.le_refl, Int.le_refl, List.take_succ_cons, List.take_zero, decide_true, decide_false, Bool.and_false, Bool.false_and, zz, zzN, zzF, fltEv, isArithF, ↓reduceIte, Nat.reduceEqDiff, Nat.reduceBEq, Int.reduceLT, Int.reduceLE, Int.reduceToNat, Int.reduceEq, Int.reduceAdd, Int.reduceSub, Int.reduceMul, Int.reduceNeg, Nat.reduceMul, Nat.reduceSub, Nat.reduceLeDiff, Nat.reduceLT, Int.reduceGT, Int.reduceGE, Int.reduceBEq, Int.reduceBNe, reduceCtorEq, Nat.reduceAdd, Ins.map, Fr.ev, argFr, argE, binEv, intEv, shEv, strEv, unEv, Fr.mark, evRes, tup, lenD, lookupD, loadD, partD, storeD, cellsD, cellOk, setAt, objNe, objSame, eqEv, readEv, lent_bool, lent_int, lent_float, lent_str, lent_agg, lent_tuple, lent_sl, lent_func, lent_iface, lent_nilif, lent_same, buildD, buildRows, rowsOf, elemsOf, normX, unnil, isNil, List.any_cons, List.any_nil, List.map_cons, List.map_nil, Bool.or_false, Bool.false_or, Bool.or_true, Bool.true_or, cond_true, cond_false]
      refine hQ (i + 1) _ _ ⟨c1e, ?_⟩ (by simp only [i_callNe, keptAt, Int.natCast_nonneg, Nat.le_refl, Int.le_refl, List.take_succ_cons, List.take_zero, decide_true, decide_false, Bool.and_false, Bool.false_and, zz, zzN, zzF, fltEv, isArithF, ↓reduceIte, Nat.reduceEqDiff, Nat.reduceBEq, Int.reduceLT, Int.reduceLE, Int.reduceToNat, Int.reduceEq, Int.reduceAdd, Int.reduceSub, Int.reduceMul, Int.reduceNeg, Nat.reduceMul, Nat.reduceSub, Nat.reduceLeDiff, Nat.reduceLT, Int.reduceGT, Int.reduceGE, Int.reduceBEq, Int.reduceBNe, reduceCtorEq, Nat.reduceAdd, Ins.map, Fr.ev, argFr, argE, binEv, intEv, shEv, strEv, unEv, Fr.mark, evRes, tup, lenD, lookupD, loadD, partD, storeD, cellsD, cellOk, setAt, objNe, objSame, eqEv, readEv, lent_bool, lent_int, lent_float, lent_str, lent_agg, lent_tuple, lent_sl, lent_func, lent_iface, lent_nilif, lent_same, buildD, buildRows, rowsOf, elemsOf, normX, unnil, isNil, List.any_cons, List.any_nil, List.map_cons, List.map_nil, Bool.or_false, Bool.false_or, Bool.or_true, Bool.true_or, cond_true, cond_false]) sub_emp (by omega)
      rw [List.take_add_one, List.all_append, hz]
      have : A[i]? = some (A.getD i 0) := by simp only [List.getD_eq_getElem?_getD, List.getElem?_eq_getElem hi, Option.getD_some]
      rw [this]
      simpa using c2e
    | false =>
      have hfin : A.drop i = orZero (Lib.trimLeftB A 48) := drop_zeros i A hz hi fun h1 => by simpa [h1] using c
      by_cases c1e : i + 1 < A.length
      case pos =>
        have c2e : (A.getD i 0 == 48) = false := by simpa [c1e] using c
        have g1 : (((i + 1 : Nat) : Int) < (A.length : Int)) = True := eq_true (by omega)
        simp only [g0, g1, g2, e1, c2e, eq48, wi, i_callNe, keptAt, Int.natCast_nonneg, Nat.le_refl, Int.le_refl, List.take_succ_cons, List.take_zero, decide_true, decide_false, Bool.and_false, Bool.false_and, zz, zzN, zzF, fltEv, isArithF, ↓reduceIte, Nat.reduceEqDiff, Nat.reduceBEq, Int.reduceLT, Int.reduceLE, Int.reduceToNat, Int.reduceEq, Int.reduceAdd, Int.reduceSub, Int.reduceMul, Int.reduceNeg, Nat.reduceMul, Nat.reduceSub, Nat.reduceLeDiff, Nat.reduceLT, Int.reduceGT, Int.reduceGE, Int.reduceBEq, Int.reduceBNe, reduceCtorEq, Nat.reduceAdd, Ins.map, Fr.ev, argFr, argE, binEv, intEv, shEv, strEv, unEv, Fr.mark, evRes, tup, lenD, lookupD, loadD, partD, storeD, cellsD, cellOk, setAt, objNe, objSame, eqEv, readEv, lent_bool, lent_int, lent_float, lent_str, lent_agg, lent_tuple, lent_sl, lent_func, lent_iface, lent_nilif, lent_same, buildD, buildRows, rowsOf, elemsOf, normX, unnil, isNil, List.any_cons, List.any_nil, List.map_cons, List.map_nil, Bool.or_false, Bool.false_or, Bool.or_true, Bool.true_or, cond_true, cond_false]
        intro _
        clear hQ Q c
        refine run_loop (X := Nat) (fun j => [(0, .str s), (3, .int .i64 A.length), (4, .int .i64 i), (5, .int .i64 (A.length + 1 + j : Nat))]) (fun _ => .emp) (fun j => j) (fun j => 1 ≤ j ∧ j ≤ B.length ∧ (B.drop j).all (· == 48) = true) B.length ⟨b1, Nat.le_refl _, by rw [List.drop_length]; rfl⟩ (by simp only [hl, i_callNe, keptAt, Int.natCast_nonneg, Nat.le_refl, Int.le_refl, List.take_succ_cons, List.take_zero, decide_true, decide_false, Bool.and_false, Bool.false_and, zz, zzN, zzF, fltEv, isArithF, ↓reduceIte, Nat.reduceEqDiff, Nat.reduceBEq, Int.reduceLT, Int.reduceLE, Int.reduceToNat, Int.reduceEq, Int.reduceAdd, Int.reduceSub, Int.reduceMul, Int.reduceNeg, Nat.reduceMul, Nat.reduceSub, Nat.reduceLeDiff, Nat.reduceLT, Int.reduceGT, Int.reduceGE, Int.reduceBEq, Int.reduceBNe, reduceCtorEq, Nat.reduceAdd, Ins.map, Fr.ev, argFr, argE, binEv, intEv, shEv, strEv, unEv, Fr.mark, evRes, tup, lenD, lookupD, loadD, partD, storeD, cellsD, cellOk, setAt, objNe, objSame, eqEv, readEv, lent_bool, lent_int, lent_float, lent_str, lent_agg, lent_tuple, lent_sl, lent_func, lent_iface, lent_nilif, lent_same, buildD, buildRows, rowsOf, elemsOf, normX, unnil, isNil, List.any_cons, List.any_nil, List.map_cons, List.map_nil, Bool.or_false, Bool.false_or, Bool.or_true, Bool.true_or, cond_true, cond_false]) sub_emp ?_
        rintro j Q ⟨j1, j2, j3⟩ hQ
        have w2 : IntKind.i64.wrap ((A.length : Int) + 2) = ((A.length + 2 : Nat) : Int) := by rw [wrap_i64 (by omega) (by omega)]; omega
        have w3 : IntKind.i64.wrap (((A.length + 1 + j : Nat) : Int) - 1) = ((A.length + 1 + (j - 1) : Nat) : Int) := by rw [wrap_i64 (by omega) (by omega)]; omega
        have e3 := gB (j - 1)
        have g3 : (0 ≤ ((A.length + 1 + (j - 1) : Nat) : Int)) = True := eq_true (by omega)
        have g4 : (((A.length + 1 + (j - 1) : Nat) : Int) < (s.length : Int)) = True := eq_true (by omega)
        have g6 : (0 ≤ (i : Int)) = True := eq_true (by omega)
        have g7 : ((i : Int) ≤ ((A.length + 1 + j : Nat) : Int)) = True := eq_true (by omega)
        have g8 : (((A.length + 1 + j : Nat) : Int) ≤ (s.length : Int)) = True := eq_true (by omega)
        have fin : (B.take j = orZero (Lib.trimRightB B 48)) → (s.drop i).take (A.length + 1 + j - i) = orZero (Lib.trimLeftB A 48) ++ [46] ++ orZero (Lib.trimRightB B 48) := fun hb => by
          rw [← hfin, ← hb, h.eq, List.append_assoc, List.drop_append_of_le_length (by omega), List.take_append, List.take_of_length_le (by rw [List.length_drop]; omega), List.append_assoc]
          congr 1
          rw [List.length_drop, show A.length + 1 + j - i - (A.length - i) = j + 1 by omega]
          rfl
        cases c : (decide (1 < j) && (B.getD (j - 1) 0 == 48)) with
        | true =>
          simp only [Bool.and_eq_true, decide_eq_true_eq] at c
          obtain ⟨c3e, c4e⟩ := c
          have g5 : (((A.length + 1 + j : Nat) : Int) > ((A.length + 2 : Nat) : Int)) = True := eq_true (by omega)
          simp only [g3, g4, g5, w2, w3, e3, c4e, eq48, Int.toNat_natCast, i_callNe, keptAt, Int.natCast_nonneg, Nat.le_refl, Int.le_refl, List.take_succ_cons, List.take_zero, decide_true, decide_false, Bool.and_false, Bool.false_and, zz, zzN, zzF, fltEv, isArithF, ↓reduceIte, Nat.reduceEqDiff, Nat.reduceBEq, Int.reduceLT, Int.reduceLE, Int.reduceToNat, Int.reduceEq, Int.reduceAdd, Int.reduceSub, Int.reduceMul, Int.reduceNeg, Nat.reduceMul, Nat.reduceSub, Nat.reduceLeDiff, Nat.reduceLT, Int.reduceGT, Int.reduceGE, Int.reduceBEq, Int.reduceBNe, reduceCtorEq, Nat.reduceAdd, Ins.map, Fr.ev, argFr, argE, binEv, intEv, shEv, strEv, unEv, Fr.mark, evRes, tup, lenD, lookupD, loadD, partD, storeD, cellsD, cellOk, setAt, objNe, objSame, eqEv, readEv, lent_bool, lent_int, lent_float, lent_str, lent_agg, lent_tuple, lent_sl, lent_func, lent_iface, lent_nilif, lent_same, buildD, buildRows, rowsOf, elemsOf, normX, unnil, isNil, List.any_cons, List.any_nil, List.map_cons, List.map_nil, Bool.or_false, Bool.false_or, Bool.or_true, Bool.true_or, cond_true, cond_false]
          refine hQ (j - 1) _ _ ⟨by omega, by omega, ?_⟩ (by simp only [i_callNe, keptAt, Int.natCast_nonneg, Nat.le_refl, Int.le_refl, List.take_succ_cons, List.take_zero, decide_true, decide_false, Bool.and_false, Bool.false_and, zz, zzN, zzF, fltEv, isArithF, ↓reduceIte, Nat.reduceEqDiff, Nat.reduceBEq, Int.reduceLT, Int.reduceLE, Int.reduceToNat, Int.reduceEq, Int.reduceAdd, Int.reduceSub, Int.reduceMul, Int.reduceNeg, Nat.reduceMul, Nat.reduceSub, Nat.reduceLeDiff, Nat.reduceLT, Int.reduceGT, Int.reduceGE, Int.reduceBEq, Int.reduceBNe, reduceCtorEq, Nat.reduceAdd, Ins.map, Fr.ev, argFr, argE, binEv, intEv, shEv, strEv, unEv, Fr.mark, evRes, tup, lenD, lookupD, loadD, partD, storeD, cellsD, cellOk, setAt, objNe, objSame, eqEv, readEv, lent_bool, lent_int, lent_float, lent_str, lent_agg, lent_tuple, lent_sl, lent_func, lent_iface, lent_nilif, lent_same, buildD, buildRows, rowsOf, elemsOf, normX, unnil, isNil, List.any_cons, List.any_nil, List.map_cons, List.map_nil, Bool.or_false, Bool.false_or, Bool.or_true, Bool.true_or, cond_true, cond_false]) sub_emp (by omega)
          rw [List.drop_eq_getElem_cons (by omega), List.all_cons, show j - 1 + 1 = j by omega, j3]
          have : B[j - 1]'(by omega) = B.getD (j - 1) 0 := by simp only [List.getD_eq_getElem?_getD, List.getElem?_eq_getElem (show j - 1 < B.length by omega), Option.getD_some]
          rw [this, c4e]
          rfl
        | false =>
          have hb : B.take j = orZero (Lib.trimRightB B 48) := take_zeros B j j3 j1 j2 fun h1 => by simpa [h1] using c
          have hf := fin hb
          by_cases c3e : 1 < j
          · have c4e : (B.getD (j - 1) 0 == 48) = false := by simpa [c3e] using c
            have g5 : (((A.length + 1 + j : Nat) : Int) > ((A.length + 2 : Nat) : Int)) = True := eq_true (by omega)
            simp only [g3, g4, g5, g6, g7, g8, w2, w3, e3, c4e, eq48, Int.toNat_natCast, hf, i_callNe, keptAt, Int.natCast_nonneg, Nat.le_refl, Int.le_refl, List.take_succ_cons, List.take_zero, decide_true, decide_false, Bool.and_false, Bool.false_and, zz, zzN, zzF, fltEv, isArithF, ↓reduceIte, Nat.reduceEqDiff, Nat.reduceBEq, Int.reduceLT, Int.reduceLE, Int.reduceToNat, Int.reduceEq, Int.reduceAdd, Int.reduceSub, Int.reduceMul, Int.reduceNeg, Nat.reduceMul, Nat.reduceSub, Nat.reduceLeDiff, Nat.reduceLT, Int.reduceGT, Int.reduceGE, Int.reduceBEq, Int.reduceBNe, reduceCtorEq, Nat.reduceAdd, Ins.map, Fr.ev, argFr, argE, binEv, intEv, shEv, strEv, unEv, Fr.mark, evRes, tup, lenD, lookupD, loadD, partD, storeD, cellsD, cellOk, setAt, objNe, objSame, eqEv, readEv, lent_bool, lent_int, lent_float, lent_str, lent_agg, lent_tuple, lent_sl, lent_func, lent_iface, lent_nilif, lent_same, buildD, buildRows, rowsOf, elemsOf, normX, unnil, isNil, List.any_cons, List.any_nil, List.map_cons, List.map_nil, Bool.or_false, Bool.false_or, Bool.or_true, Bool.true_or, cond_true, cond_false]
          · have g5 : (((A.length + 1 + j : Nat) : Int) > ((A.length + 2 : Nat) : Int)) = False := eq_false (by omega)
            simp only [g3, g4, g5, g6, g7, g8, w2, w3, e3, eq48, Int.toNat_natCast, hf, i_callNe, keptAt, Int.natCast_nonneg, Nat.le_refl, Int.le_refl, List.take_succ_cons, List.take_zero, decide_true, decide_false, Bool.and_false, Bool.false_and, zz, zzN, zzF, fltEv, isArithF, ↓reduceIte, Nat.reduceEqDiff, Nat.reduceBEq, Int.reduceLT, Int.reduceLE, Int.reduceToNat, Int.reduceEq, Int.reduceAdd, Int.reduceSub, Int.reduceMul, Int.reduceNeg, Nat.reduceMul, Nat.reduceSub, Nat.reduceLeDiff, Nat.reduceLT, Int.reduceGT, Int.reduceGE, Int.reduceBEq, Int.reduceBNe, reduceCtorEq, Nat.reduceAdd, Ins.map, Fr.ev, argFr, argE, binEv, intEv, shEv, strEv, unEv, Fr.mark, evRes, tup, lenD, lookupD, loadD, partD, storeD, cellsD, cellOk, setAt, objNe, objSame, eqEv, readEv, lent_bool, lent_int, lent_float, lent_str, lent_agg, lent_tuple, lent_sl, lent_func, lent_iface, lent_nilif, lent_same, buildD, buildRows, rowsOf, elemsOf, normX, unnil, isNil, List.any_cons, List.any_nil, List.map_cons, List.map_nil, Bool.or_false, Bool.false_or, Bool.or_true, Bool.true_or, cond_true, cond_false]
      case neg =>
        have g1 : (((i + 1 : Nat) : Int) < (A.length : Int)) = False := eq_false (by omega)
        simp only [g0, g1, g2, e1, eq48, wi, i_callNe, keptAt, Int.natCast_nonneg, Nat.le_refl, Int.le_refl, List.take_succ_cons, List.take_zero, decide_true, decide_false, Bool.and_false, Bool.false_and, zz, zzN, zzF, fltEv, isArithF, ↓reduceIte, Nat.reduceEqDiff, Nat.reduceBEq, Int.reduceLT, Int.reduceLE, Int.reduceToNat, Int.reduceEq, Int.reduceAdd, Int.reduceSub, Int.reduceMul, Int.reduceNeg, Nat.reduceMul, Nat.reduceSub, Nat.reduceLeDiff, Nat.reduceLT, Int.reduceGT, Int.reduceGE, Int.reduceBEq, Int.reduceBNe, reduceCtorEq, Nat.reduceAdd, Ins.map, Fr.ev, argFr, argE, binEv, intEv, shEv, strEv, unEv, Fr.mark, evRes, tup, lenD, lookupD, loadD, partD, storeD, cellsD, cellOk, setAt, objNe, objSame, eqEv, readEv, lent_bool, lent_int, lent_float, lent_str, lent_agg, lent_tuple, lent_sl, lent_func, lent_iface, lent_nilif, lent_same, buildD, buildRows, rowsOf, elemsOf, normX, unnil, isNil, List.any_cons, List.any_nil, List.map_cons, List.map_nil, Bool.or_false, Bool.false_or, Bool.or_true, Bool.true_or, cond_true, cond_false]
        intro _
        clear hQ Q c
        refine run_loop (X := Nat) (fun j => [(0, .str s), (3, .int .i64 A.length), (4, .int .i64 i), (5, .int .i64 (A.length + 1 + j : Nat))]) (fun _ => .emp) (fun j => j) (fun j => 1 ≤ j ∧ j ≤ B.length ∧ (B.drop j).all (· == 48) = true) B.length ⟨b1, Nat.le_refl _, by rw [List.drop_length]; rfl⟩ (by simp only [hl, i_callNe, keptAt, Int.natCast_nonneg, Nat.le_refl, Int.le_refl, List.take_succ_cons, List.take_zero, decide_true, decide_false, Bool.and_false, Bool.false_and, zz, zzN, zzF, fltEv, isArithF, ↓reduceIte, Nat.reduceEqDiff, Nat.reduceBEq, Int.reduceLT, Int.reduceLE, Int.reduceToNat, Int.reduceEq, Int.reduceAdd, Int.reduceSub, Int.reduceMul, Int.reduceNeg, Nat.reduceMul, Nat.reduceSub, Nat.reduceLeDiff, Nat.reduceLT, Int.reduceGT, Int.reduceGE, Int.reduceBEq, Int.reduceBNe, reduceCtorEq, Nat.reduceAdd, Ins.map, Fr.ev, argFr, argE, binEv, intEv, shEv, strEv, unEv, Fr.mark, evRes, tup, lenD, lookupD, loadD, partD, storeD, cellsD, cellOk, setAt, objNe, objSame, eqEv, readEv, lent_bool, lent_int, lent_float, lent_str, lent_agg, lent_tuple, lent_sl, lent_func, lent_iface, lent_nilif, lent_same, buildD, buildRows, rowsOf, elemsOf, normX, unnil, isNil, List.any_cons, List.any_nil, List.map_cons, List.map_nil, Bool.or_false, Bool.false_or, Bool.or_true, Bool.true_or, cond_true, cond_false]) sub_emp ?_
        rintro j Q ⟨j1, j2, j3⟩ hQ
        have w2 : IntKind.i64.wrap ((A.length : Int) + 2) = ((A.length + 2 : Nat) : Int) := by rw [wrap_i64 (by omega) (by omega)]; omega
        have w3 : IntKind.i64.wrap (((A.length + 1 + j : Nat) : Int) - 1) = ((A.length + 1 + (j - 1) : Nat) : Int) := by rw [wrap_i64 (by omega) (by omega)]; omega
        have e3 := gB (j - 1)
        have g3 : (0 ≤ ((A.length + 1 + (j - 1) : Nat) : Int)) = True := eq_true (by omega)
        have g4 : (((A.length + 1 + (j - 1) : Nat) : Int) < (s.length : Int)) = True := eq_true (by omega)
        have g6 : (0 ≤ (i : Int)) = True := eq_true (by omega)
        have g7 : ((i : Int) ≤ ((A.length + 1 + j : Nat) : Int)) = True := eq_true (by omega)
        have g8 : (((A.length + 1 + j : Nat) : Int) ≤ (s.length : Int)) = True := eq_true (by omega)
        have fin : (B.take j = orZero (Lib.trimRightB B 48)) → (s.drop i).take (A.length + 1 + j - i) = orZero (Lib.trimLeftB A 48) ++ [46] ++ orZero (Lib.trimRightB B 48) := fun hb => by
          rw [← hfin, ← hb, h.eq, List.append_assoc, List.drop_append_of_le_length (by omega), List.take_append, List.take_of_length_le (by rw [List.length_drop]; omega), List.append_assoc]
          congr 1
          rw [List.length_drop, show A.length + 1 + j - i - (A.length - i) = j + 1 by omega]
          rfl
        cases c : (decide (1 < j) && (B.getD (j - 1) 0 == 48)) with
        | true =>
          simp only [Bool.and_eq_true, decide_eq_true_eq] at c
          obtain ⟨c3e, c4e⟩ := c
          have g5 : (((A.length + 1 + j : Nat) : Int) > ((A.length + 2 : Nat) : Int)) = True := eq_true (by omega)
          simp only [g3, g4, g5, w2, w3, e3, c4e, eq48, Int.toNat_natCast, i_callNe, keptAt, Int.natCast_nonneg, Nat.le_refl, Int.le_refl, List.take_succ_cons, List.take_zero, decide_true, decide_false, Bool.and_false, Bool.false_and, zz, zzN, zzF, fltEv, isArithF, ↓reduceIte, Nat.reduceEqDiff, Nat.reduceBEq, Int.reduceLT, Int.reduceLE, Int.reduceToNat, Int.reduceEq, Int.reduceAdd, Int.reduceSub, Int.reduceMul, Int.reduceNeg, Nat.reduceMul, Nat.reduceSub, Nat.reduceLeDiff, Nat.reduceLT, Int.reduceGT, Int.reduceGE, Int.reduceBEq, Int.reduceBNe, reduceCtorEq, Nat.reduceAdd, Ins.map, Fr.ev, argFr, argE, binEv, intEv, shEv, strEv, unEv, Fr.mark, evRes, tup, lenD, lookupD, loadD, partD, storeD, cellsD, cellOk, setAt, objNe, objSame, eqEv, readEv, lent_bool, lent_int, lent_float, lent_str, lent_agg, lent_tuple, lent_sl, lent_func, lent_iface, lent_nilif, lent_same, buildD, buildRows, rowsOf, elemsOf, normX, unnil, isNil, List.any_cons, List.any_nil, List.map_cons, List.map_nil, Bool.or_false, Bool.false_or, Bool.or_true, Bool.true_or, cond_true, cond_false]
          refine hQ (j - 1) _ _ ⟨by omega, by omega, ?_⟩ (by simp only [i_callNe, keptAt, Int.natCast_nonneg, Nat.le_refl, Int.le_refl, List.take_succ_cons, List.take_zero, decide_true, decide_false, Bool.and_false, Bool.false_and, zz, zzN, zzF, fltEv, isArithF, ↓reduceIte, Nat.reduceEqDiff, Nat.reduceBEq, Int.reduceLT, Int.reduceLE, Int.reduceToNat, Int.reduceEq, Int.reduceAdd, Int.reduceSub, Int.reduceMul, Int.reduceNeg, Nat.reduceMul, Nat.reduceSub, Nat.reduceLeDiff, Nat.reduceLT, Int.reduceGT, Int.reduceGE, Int.reduceBEq, Int.reduceBNe, reduceCtorEq, Nat.reduceAdd, Ins.map, Fr.ev, argFr, argE, binEv, intEv, shEv, strEv, unEv, Fr.mark, evRes, tup, lenD, lookupD, loadD, partD, storeD, cellsD, cellOk, setAt, objNe, objSame, eqEv, readEv, lent_bool, lent_int, lent_float, lent_str, lent_agg, lent_tuple, lent_sl, lent_func, lent_iface, lent_nilif, lent_same, buildD, buildRows, rowsOf, elemsOf, normX, unnil, isNil, List.any_cons, List.any_nil, List.map_cons, List.map_nil, Bool.or_false, Bool.false_or, Bool.or_true, Bool.true_or, cond_true, cond_false]) sub_emp (by omega)
          rw [List.drop_eq_getElem_cons (by omega), List.all_cons, show j - 1 + 1 = j by omega, j3]
          have : B[j - 1]'(by omega) = B.getD (j - 1) 0 := by simp only [List.getD_eq_getElem?_getD, List.getElem?_eq_getElem (show j - 1 < B.length by omega), Option.getD_some]
          rw [this, c4e]
          rfl
        | false =>
          have hb : B.take j = orZero (Lib.trimRightB B 48) := take_zeros B j j3 j1 j2 fun h1 => by simpa [h1] using c
          have hf := fin hb
          by_cases c3e : 1 < j
          · have c4e : (B.getD (j - 1) 0 == 48) = false := by simpa [c3e] using c
            have g5 : (((A.length + 1 + j : Nat) : Int) > ((A.length + 2 : Nat) : Int)) = True := eq_true (by omega)
            simp only [g3, g4, g5, g6, g7, g8, w2, w3, e3, c4e, eq48, Int.toNat_natCast, hf, i_callNe, keptAt, Int.natCast_nonneg, Nat.le_refl, Int.le_refl, List.take_succ_cons, List.take_zero, decide_true, decide_false, Bool.and_false, Bool.false_and, zz, zzN, zzF, fltEv, isArithF, ↓reduceIte, Nat.reduceEqDiff, Nat.reduceBEq, Int.reduceLT, Int.reduceLE, Int.reduceToNat, Int.reduceEq, Int.reduceAdd, Int.reduceSub, Int.reduceMul, Int.reduceNeg, Nat.reduceMul, Nat.reduceSub, Nat.reduceLeDiff, Nat.reduceLT, Int.reduceGT, Int.reduceGE, Int.reduceBEq, Int.reduceBNe, reduceCtorEq, Nat.reduceAdd, Ins.map, Fr.ev, argFr, argE, binEv, intEv, shEv, strEv, unEv, Fr.mark, evRes, tup, lenD, lookupD, loadD, partD, storeD, cellsD, cellOk, setAt, objNe, objSame, eqEv, readEv, lent_bool, lent_int, lent_float, lent_str, lent_agg, lent_tuple, lent_sl, lent_func, lent_iface, lent_nilif, lent_same, buildD, buildRows, rowsOf, elemsOf, normX, unnil, isNil, List.any_cons, List.any_nil, List.map_cons, List.map_nil, Bool.or_false, Bool.false_or, Bool.or_true, Bool.true_or, cond_true, cond_false]
          · have g5 : (((A.length + 1 + j : Nat) : Int) > ((A.length + 2 : Nat) : Int)) = False := eq_false (by omega)
            simp only [g3, g4, g5, g6, g7, g8, w2, w3, e3, eq48, Int.toNat_natCast, hf, i_callNe, keptAt, Int.natCast_nonneg, Nat.le_refl, Int.le_refl, List.take_succ_cons, List.take_zero, decide_true, decide_false, Bool.and_false, Bool.false_and, zz, zzN, zzF, fltEv, isArithF, ↓reduceIte, Nat.reduceEqDiff, Nat.reduceBEq, Int.reduceLT, Int.reduceLE, Int.reduceToNat, Int.reduceEq, Int.reduceAdd, Int.reduceSub, Int.reduceMul, Int.reduceNeg, Nat.reduceMul, Nat.reduceSub, Nat.reduceLeDiff, Nat.reduceLT, Int.reduceGT, Int.reduceGE, Int.reduceBEq, Int.reduceBNe, reduceCtorEq, Nat.reduceAdd, Ins.map, Fr.ev, argFr, argE, binEv, intEv, shEv, strEv, unEv, Fr.mark, evRes, tup, lenD, lookupD, loadD, partD, storeD, cellsD, cellOk, setAt, objNe, objSame, eqEv, readEv, lent_bool, lent_int, lent_float, lent_str, lent_agg, lent_tuple, lent_sl, lent_func, lent_iface, lent_nilif, lent_same, buildD, buildRows, rowsOf, elemsOf, normX, unnil, isNil, List.any_cons, List.any_nil, List.map_cons, List.map_nil, Bool.or_false, Bool.false_or, Bool.or_true, Bool.true_or, cond_true, cond_false]

theorem parts_c (s A B : List UInt8) (h : Dotted s A B) : PCall Tryd.prog 28 [.str s] (.tuple [.int .i64 (valF (A ++ B) : Nat), .int .i64 (B.length : Nat)]) := by
  refine PCall.run (Tab.zero_ok _) st28e (by simp) fun E => ?_
  have hl : s.length = A.length + 1 + B.length := by rw [h.eq]; simp; omega
  have hlen := h.len
  have hAB : (A ++ B).length = A.length + B.length := List.length_append
  have hall : (A ++ B).all isDig = true := by rw [List.all_append, h.a, h.b]; rfl
  have vle : ∀ i, valF ((A ++ B).take i) < 1000000000000000 := fun i => valF_53 (by
    rw [List.all_eq_true] at hall ⊢
    exact fun x hx => hall x (List.mem_of_mem_take hx)) (by rw [List.length_take, hAB]; omega)
  have gD : s.getD A.length 0 = 46 := by
    rw [h.eq, List.append_assoc]; simp only [List.getD_eq_getElem?_getD]; rw [List.getElem?_append_right (Nat.le_refl _)]; simp
  have gN : ∀ i, i < s.length → i ≠ A.length → s.getD i 0 = (A ++ B).getD (if A.length < i then i - 1 else i) 0 := fun i hi hne => by
    simp only [List.getD_eq_getElem?_getD]
    rw [h.eq]
    by_cases c : A.length < i
    · rw [if_pos c, List.getElem?_append_right (by simp; omega), List.getElem?_append_right (by omega)]
      simp only [List.length_append, List.length_cons, List.length_nil]
      rw [show i - (A.length + (0 + 1)) = i - 1 - A.length by omega]
    · rw [if_neg c, List.append_assoc, List.getElem?_append_left (by omega), List.getElem?_append_left (by omega)]
  simp only [s28e, i_callNe, keptAt, Int.natCast_nonneg, Nat.le_refl, Int.le_refl, List.take_succ_cons, List.take_zero, decide_true, decide_false, Bool.and_false, Bool.false_and, zz, zzN, zzF, fltEv, isArithF, ↓reduceIte, Nat.reduceEqDiff, Nat.reduceBEq, Int.reduceLT, Int.reduceLE, Int.reduceToNat, Int.reduceEq, Int.reduceAdd, Int.reduceSub, Int.reduceMul, Int.reduceNeg, Nat.reduceMul, Nat.reduceSub, Nat.reduceLeDiff, Nat.reduceLT, Int.reduceGT, Int.reduceGE, Int.reduceBEq, Int.reduceBNe, reduceCtorEq, Nat.reduceAdd, Ins.map, Fr.ev, argFr, argE, binEv, intEv, shEv, strEv, unEv, Fr.mark, evRes, tup, lenD, lookupD, loadD, partD, storeD, cellsD, cellOk, setAt, objNe, objSame, eqEv, readEv, lent_bool, lent_int, lent_float, lent_str, lent_agg, lent_tuple, lent_sl, lent_func, lent_iface, lent_nilif, lent_same, buildD, buildRows, rowsOf, elemsOf, normX, unnil, isNil, List.any_cons, List.any_nil, List.map_cons, List.map_nil, Bool.or_false, Bool.false_or, Bool.or_true, Bool.true_or, cond_true, cond_false]
  refine run_loop (X := Nat) (fun i => [(0, .str s), (4, .int .i64 (valF ((A ++ B).take (if A.length < i then i - 1 else i)) : Nat)), (5, .int .i64 ((i - (A.length + 1) : Nat) : Int)), (6, .bool (decide (A.length < i))), (7, .int .i64 i)]) (fun _ => .emp) (fun i => s.length - i) (fun i => i ≤ s.length) 0 (Nat.zero_le _) ?_ sub_emp ?_
  · simp only [Nat.not_lt_zero, List.take_zero, Nat.zero_sub, i_callNe, keptAt, Int.natCast_nonneg, Nat.le_refl, Int.le_refl, List.take_succ_cons, List.take_zero, decide_true, decide_false, Bool.and_false, Bool.false_and, zz, zzN, zzF, fltEv, isArithF, ↓reduceIte, Nat.reduceEqDiff, Nat.reduceBEq, Int.reduceLT, Int.reduceLE, Int.reduceToNat, Int.reduceEq, Int.reduceAdd, Int.reduceSub, Int.reduceMul, Int.reduceNeg, Nat.reduceMul, Nat.reduceSub, Nat.reduceLeDiff, Nat.reduceLT, Int.reduceGT, Int.reduceGE, Int.reduceBEq, Int.reduceBNe, reduceCtorEq, Nat.reduceAdd, Ins.map, Fr.ev, argFr, argE, binEv, intEv, shEv, strEv, unEv, Fr.mark, evRes, tup, lenD, lookupD, loadD, partD, storeD, cellsD, cellOk, setAt, objNe, objSame, eqEv, readEv, lent_bool, lent_int, lent_float, lent_str, lent_agg, lent_tuple, lent_sl, lent_func, lent_iface, lent_nilif, lent_same, buildD, buildRows, rowsOf, elemsOf, normX, unnil, isNil, List.any_cons, List.any_nil, List.map_cons, List.map_nil, Bool.or_false, Bool.false_or, Bool.or_true, Bool.true_or, cond_true, cond_false]
    rfl
  intro i Q hi hQ
  by_cases c : i < s.length
  · have g1 : ((i : Int) < (s.length : Int)) = True := eq_true (by omega)
    have g0 : (0 ≤ (i : Int)) = True := eq_true (by omega)
    have wi : IntKind.i64.wrap ((i : Int) + 1) = ((i + 1 : Nat) : Int) := wrap_succ (by omega)
    by_cases c1e : i = A.length
    · subst c1e
      have e2 : ((46 : UInt8) == 46) = true := rfl
      simp only [g0, g1, gD, e2, eq46, wi, Int.toNat_natCast, i_callNe, keptAt, Int.natCast_nonneg, Nat.le_refl, Int.le_refl, List.take_succ_cons, List.take_zero, decide_true, decide_false, Bool.and_false, Bool.false_and, zz, zzN, zzF, fltEv, isArithF, ↓reduceIte, Nat.reduceEqDiff, Nat.reduceBEq, Int.reduceLT, Int.reduceLE, Int.reduceToNat, Int.reduceEq, Int.reduceAdd, Int.reduceSub, Int.reduceMul, Int.reduceNeg, Nat.reduceMul, Nat.reduceSub, Nat.reduceLeDiff, Nat.reduceLT, Int.reduceGT, Int.reduceGE, Int.reduceBEq, Int.reduceBNe, reduceCtorEq, Nat.reduceAdd, Ins.map, Fr.ev, argFr, argE, binEv, intEv, shEv, strEv, unEv, Fr.mark, evRes, tup, lenD, lookupD, loadD, partD, storeD, cellsD, cellOk, setAt, objNe, objSame, eqEv, readEv, lent_bool, lent_int, lent_float, lent_str, lent_agg, lent_tuple, lent_sl, lent_func, lent_iface, lent_nilif, lent_same, buildD, buildRows, rowsOf, elemsOf, normX, unnil, isNil, List.any_cons, List.any_nil, List.map_cons, List.map_nil, Bool.or_false, Bool.false_or, Bool.or_true, Bool.true_or, cond_true, cond_false]
      intro _
      refine hQ (A.length + 1) _ _ (by omega) ?_ sub_emp (by omega)
      simp only [Nat.lt_succ_self, Nat.lt_irrefl, Nat.sub_self, Nat.add_sub_cancel, Nat.sub_eq_zero_of_le (Nat.le_succ _), i_callNe, keptAt, Int.natCast_nonneg, Nat.le_refl, Int.le_refl, List.take_succ_cons, List.take_zero, decide_true, decide_false, Bool.and_false, Bool.false_and, zz, zzN, zzF, fltEv, isArithF, ↓reduceIte, Nat.reduceEqDiff, Nat.reduceBEq, Int.reduceLT, Int.reduceLE, Int.reduceToNat, Int.reduceEq, Int.reduceAdd, Int.reduceSub, Int.reduceMul, Int.reduceNeg, Nat.reduceMul, Nat.reduceSub, Nat.reduceLeDiff, Nat.reduceLT, Int.reduceGT, Int.reduceGE, Int.reduceBEq, Int.reduceBNe, reduceCtorEq, Nat.reduceAdd, Ins.map, Fr.ev, argFr, argE, binEv, intEv, shEv, strEv, unEv, Fr.mark, evRes, tup, lenD, lookupD, loadD, partD, storeD, cellsD, cellOk, setAt, objNe, objSame, eqEv, readEv, lent_bool, lent_int, lent_float, lent_str, lent_agg, lent_tuple, lent_sl, lent_func, lent_iface, lent_nilif, lent_same, buildD, buildRows, rowsOf, elemsOf, normX, unnil, isNil, List.any_cons, List.any_nil, List.map_cons, List.map_nil, Bool.or_false, Bool.false_or, Bool.or_true, Bool.true_or, cond_true, cond_false]
    · have e1 := gN i c c1e
      obtain ⟨k, hk⟩ : ∃ k, (if A.length < i then i - 1 else i) = k := ⟨_, rfl⟩
      have hk1 : (if A.length < i + 1 then i + 1 - 1 else i + 1) = k + 1 := by
        by_cases c2e : A.length < i
        · rw [if_pos c2e] at hk; rw [if_pos (by omega)]; omega
        · rw [if_neg c2e] at hk; rw [if_neg (by omega)]; omega
      have hkl : k < (A ++ B).length := by
        by_cases c2e : A.length < i
        · rw [if_pos c2e] at hk; omega
        · rw [if_neg c2e] at hk; omega
      rw [hk] at e1
      obtain ⟨x, hx⟩ : ∃ x, (A ++ B)[k]? = some x := ⟨_, List.getElem?_eq_getElem hkl⟩
      have hxd : isDig x = true := by rw [List.all_eq_true] at hall; exact hall x (List.mem_of_getElem? hx)
      have hgx : (A ++ B).getD k 0 = x := by simp only [List.getD_eq_getElem?_getD, hx, Option.getD_some]
      rw [hgx] at e1
      have hx1 : 48 ≤ x.toNat ∧ x.toNat ≤ 57 := by simpa [isDig] using hxd
      have e2 := dig_ne hxd
      have hv : valF ((A ++ B).take k) * 10 + (x.toNat - 48) = valF ((A ++ B).take (k + 1)) := by
        rw [List.take_add_one, hx]; exact (valF_snoc _ _).symm
      have v1 := vle (k + 1)
      have w1 : IntKind.i64.wrap ((valF ((A ++ B).take k) : Int) * 10) = ((valF ((A ++ B).take k) * 10 : Nat) : Int) := by rw [wrap_i64 (by omega) (by omega)]; omega
      have w2 : IntKind.u8.wrap ((x.toNat : Int) - 48) = ((x.toNat - 48 : Nat) : Int) := by rw [wrap_u8]; omega
      have w3 : IntKind.i64.wrap ((x.toNat - 48 : Nat) : Int) = ((x.toNat - 48 : Nat) : Int) := wrap_i64 (by omega) (by omega)
      have w4 : IntKind.i64.wrap (((valF ((A ++ B).take k) * 10 : Nat) : Int) + ((x.toNat - 48 : Nat) : Int)) = (valF ((A ++ B).take (k + 1)) : Int) := by rw [wrap_i64 (by omega) (by omega), ← hv]; omega
      by_cases c2e : A.length < i
      · have g3 : (A.length < i) = True := eq_true c2e
        have w5 : IntKind.i64.wrap (((i - (A.length + 1) : Nat) : Int) + 1) = ((i + 1 - (A.length + 1) : Nat) : Int) := by rw [wrap_i64 (by omega) (by omega)]; omega
        have g4 : (A.length < i + 1) = True := eq_true (by omega)
        have hk2 : i - 1 = k := by rw [if_pos c2e] at hk; exact hk
        have hk3 : i + 1 - 1 = k + 1 := by omega
        simp only [hk2, g0, g1, g3, e1, e2, eq46, wi, w1, w2, w3, w4, w5, Int.toNat_natCast, i_callNe, keptAt, Int.natCast_nonneg, Nat.le_refl, Int.le_refl, List.take_succ_cons, List.take_zero, decide_true, decide_false, Bool.and_false, Bool.false_and, zz, zzN, zzF, fltEv, isArithF, ↓reduceIte, Nat.reduceEqDiff, Nat.reduceBEq, Int.reduceLT, Int.reduceLE, Int.reduceToNat, Int.reduceEq, Int.reduceAdd, Int.reduceSub, Int.reduceMul, Int.reduceNeg, Nat.reduceMul, Nat.reduceSub, Nat.reduceLeDiff, Nat.reduceLT, Int.reduceGT, Int.reduceGE, Int.reduceBEq, Int.reduceBNe, reduceCtorEq, Nat.reduceAdd, Ins.map, Fr.ev, argFr, argE, binEv, intEv, shEv, strEv, unEv, Fr.mark, evRes, tup, lenD, lookupD, loadD, partD, storeD, cellsD, cellOk, setAt, objNe, objSame, eqEv, readEv, lent_bool, lent_int, lent_float, lent_str, lent_agg, lent_tuple, lent_sl, lent_func, lent_iface, lent_nilif, lent_same, buildD, buildRows, rowsOf, elemsOf, normX, unnil, isNil, List.any_cons, List.any_nil, List.map_cons, List.map_nil, Bool.or_false, Bool.false_or, Bool.or_true, Bool.true_or, cond_true, cond_false]
        intro _
        refine hQ (i + 1) _ _ (by omega) ?_ sub_emp (by omega)
        simp only [hk3, g4, i_callNe, keptAt, Int.natCast_nonneg, Nat.le_refl, Int.le_refl, List.take_succ_cons, List.take_zero, decide_true, decide_false, Bool.and_false, Bool.false_and, zz, zzN, zzF, fltEv, isArithF, ↓reduceIte, Nat.reduceEqDiff, Nat.reduceBEq, Int.reduceLT, Int.reduceLE, Int.reduceToNat, Int.reduceEq, Int.reduceAdd, Int.reduceSub, Int.reduceMul, Int.reduceNeg, Nat.reduceMul, Nat.reduceSub, Nat.reduceLeDiff, Nat.reduceLT, Int.reduceGT, Int.reduceGE, Int.reduceBEq, Int.reduceBNe, reduceCtorEq, Nat.reduceAdd, Ins.map, Fr.ev, argFr, argE, binEv, intEv, shEv, strEv, unEv, Fr.mark, evRes, tup, lenD, lookupD, loadD, partD, storeD, cellsD, cellOk, setAt, objNe, objSame, eqEv, readEv, lent_bool, lent_int, lent_float, lent_str, lent_agg, lent_tuple, lent_sl, lent_func, lent_iface, lent_nilif, lent_same, buildD, buildRows, rowsOf, elemsOf, normX, unnil, isNil, List.any_cons, List.any_nil, List.map_cons, List.map_nil, Bool.or_false, Bool.false_or, Bool.or_true, Bool.true_or, cond_true, cond_false]
      · have g3 : (A.length < i) = False := eq_false c2e
        have g4 : (A.length < i + 1) = False := eq_false (by omega)
        have w5 : i - (A.length + 1) = i + 1 - (A.length + 1) := by omega
        have hk2 : k = i := by rw [if_neg c2e] at hk; exact hk.symm
        subst hk2
        simp only [g0, g1, g3, e1, e2, eq46, wi, w1, w2, w3, w4, Int.toNat_natCast, i_callNe, keptAt, Int.natCast_nonneg, Nat.le_refl, Int.le_refl, List.take_succ_cons, List.take_zero, decide_true, decide_false, Bool.and_false, Bool.false_and, zz, zzN, zzF, fltEv, isArithF, ↓reduceIte, Nat.reduceEqDiff, Nat.reduceBEq, Int.reduceLT, Int.reduceLE, Int.reduceToNat, Int.reduceEq, Int.reduceAdd, Int.reduceSub, Int.reduceMul, Int.reduceNeg, Nat.reduceMul, Nat.reduceSub, Nat.reduceLeDiff, Nat.reduceLT, Int.reduceGT, Int.reduceGE, Int.reduceBEq, Int.reduceBNe, reduceCtorEq, Nat.reduceAdd, Ins.map, Fr.ev, argFr, argE, binEv, intEv, shEv, strEv, unEv, Fr.mark, evRes, tup, lenD, lookupD, loadD, partD, storeD, cellsD, cellOk, setAt, objNe, objSame, eqEv, readEv, lent_bool, lent_int, lent_float, lent_str, lent_agg, lent_tuple, lent_sl, lent_func, lent_iface, lent_nilif, lent_same, buildD, buildRows, rowsOf, elemsOf, normX, unnil, isNil, List.any_cons, List.any_nil, List.map_cons, List.map_nil, Bool.or_false, Bool.false_or, Bool.or_true, Bool.true_or, cond_true, cond_false]
        intro _
        refine hQ (k + 1) _ _ (by omega) ?_ sub_emp (by omega)
        simp only [g4, w5, i_callNe, keptAt, Int.natCast_nonneg, Nat.le_refl, Int.le_refl, List.take_succ_cons, List.take_zero, decide_true, decide_false, Bool.and_false, Bool.false_and, zz, zzN, zzF, fltEv, isArithF, ↓reduceIte, Nat.reduceEqDiff, Nat.reduceBEq, Int.reduceLT, Int.reduceLE, Int.reduceToNat, Int.reduceEq, Int.reduceAdd, Int.reduceSub, Int.reduceMul, Int.reduceNeg, Nat.reduceMul, Nat.reduceSub, Nat.reduceLeDiff, Nat.reduceLT, Int.reduceGT, Int.reduceGE, Int.reduceBEq, Int.reduceBNe, reduceCtorEq, Nat.reduceAdd, Ins.map, Fr.ev, argFr, argE, binEv, intEv, shEv, strEv, unEv, Fr.mark, evRes, tup, lenD, lookupD, loadD, partD, storeD, cellsD, cellOk, setAt, objNe, objSame, eqEv, readEv, lent_bool, lent_int, lent_float, lent_str, lent_agg, lent_tuple, lent_sl, lent_func, lent_iface, lent_nilif, lent_same, buildD, buildRows, rowsOf, elemsOf, normX, unnil, isNil, List.any_cons, List.any_nil, List.map_cons, List.map_nil, Bool.or_false, Bool.false_or, Bool.or_true, Bool.true_or, cond_true, cond_false]
  · have e0 : i = s.length := by omega
    subst e0
    have g1 : ((s.length : Int) < (s.length : Int)) = False := eq_false (by omega)
    have g3 : (A.length < s.length) = True := eq_true (by omega)
    have tk : (A ++ B).take (s.length - 1) = A ++ B := List.take_of_length_le (by omega)
    have g5 : s.length - (A.length + 1) = B.length := by omega
    simp only [g1, g3, tk, g5, implies_true, i_callNe, keptAt, Int.natCast_nonneg, Nat.le_refl, Int.le_refl, List.take_succ_cons, List.take_zero, decide_true, decide_false, Bool.and_false, Bool.false_and, zz, zzN, zzF, fltEv, isArithF, ↓reduceIte, Nat.reduceEqDiff, Nat.reduceBEq, Int.reduceLT, Int.reduceLE, Int.reduceToNat, Int.reduceEq, Int.reduceAdd, Int.reduceSub, Int.reduceMul, Int.reduceNeg, Nat.reduceMul, Nat.reduceSub, Nat.reduceLeDiff, Nat.reduceLT, Int.reduceGT, Int.reduceGE, Int.reduceBEq, Int.reduceBNe, reduceCtorEq, Nat.reduceAdd, Ins.map, Fr.ev, argFr, argE, binEv, intEv, shEv, strEv, unEv, Fr.mark, evRes, tup, lenD, lookupD, loadD, partD, storeD, cellsD, cellOk, setAt, objNe, objSame, eqEv, readEv, lent_bool, lent_int, lent_float, lent_str, lent_agg, lent_tuple, lent_sl, lent_func, lent_iface, lent_nilif, lent_same, buildD, buildRows, rowsOf, elemsOf, normX, unnil, isNil, List.any_cons, List.any_nil, List.map_cons, List.map_nil, Bool.or_false, Bool.false_or, Bool.or_true, Bool.true_or, cond_true, cond_false]

theorem fromb : extOk Tryd.prog 29 "math.Float64frombits" = true := by kernel_rfl
def q12e : List D → Option D
  | [] => if True then some (.bool true) else none
  | _ => none
theorem q12e_ok (args : List D) (d : D) (h : q12e args = some d) : PCall Tryd.prog 12 args d := by
  unfold q12e at h
  split at h
  · split at h
    · cases h; exact awakeA_c
    · cases h
  · cases h

def q26e : List D → Option D
  | [.int .u64 a, .int .i64 b] => if a = 0 ∧ b = 0 then some (.str []) else none
  | _ => none
theorem q26e_ok (args : List D) (d : D) (h : q26e args = some d) : PCall Tryd.prog 26 args d := by
  unfold q26e at h
  split at h
  · split at h
    · cases h; exact by rename_i h; obtain ⟨rfl, rfl⟩ := h; exact num0_c
    · cases h
  · cases h

theorem dotted_cut {s A B : List UInt8} (h : Dotted s A B) : (Lib.cut s [46]).1 = A ∧ (Lib.cut s [46]).2.1 = B := by
  rw [h.eq, cut_dot A B h.a]; exact ⟨rfl, rfl⟩
def dotOk (s : List UInt8) : Prop := Dotted s (Lib.cut s [46]).1 (Lib.cut s [46]).2.1
instance (s : List UInt8) : Decidable (dotOk s) := Classical.propDecidable _
theorem Dotted.ok {s A B : List UInt8} (h : Dotted s A B) : dotOk s := by
  obtain ⟨h1, h2⟩ := dotted_cut h
  unfold dotOk
  rw [h1, h2]; exact h
def q28e : List D → Option D
  | [.str s] => if dotOk s then some (.tuple [.int .i64 (valF ((Lib.cut s [46]).1 ++ (Lib.cut s [46]).2.1) : Nat), .int .i64 ((Lib.cut s [46]).2.1.length : Nat)]) else none
  | _ => none
theorem q28e_ok (args : List D) (d : D) (h : q28e args = some d) : PCall Tryd.prog 28 args d := by
  unfold q28e at h
  split at h
  · split at h
    · cases h; exact by rename_i h; exact parts_c _ _ _ h
    · cases h
  · cases h

def q32e : List D → Option D
  | [.str s] => if dotOk s then some (.str (digF s)) else none
  | _ => none
theorem q32e_ok (args : List D) (d : D) (h : q32e args = some d) : PCall Tryd.prog 32 args d := by
  unfold q32e at h
  split at h
  · split at h
    · cases h; exact by rename_i h; exact rdigits_c _ _ _ h
    · cases h
  · cases h

theorem Dotted.onParts {s A B : List UInt8} (h : Dotted s A B) : q28e [.str s] = some (.tuple [.int .i64 (valF (A ++ B) : Nat), .int .i64 (B.length : Nat)]) := by
  have h1 := h.ok
  obtain ⟨e1, e2⟩ := dotted_cut h
  simp only [q28e]
  rw [if_pos h1, e1, e2]
theorem Dotted.onRef {s A B : List UInt8} (h : Dotted s A B) : q32e [.str s] = some (.str (digF s)) := by
  simp only [q32e]
  rw [if_pos h.ok]
def q31e : List D → Option D
  | [.str s] => if dotOk s then some (.agg [.int .i64 21, .int .i64 2, .str (digF s), .int .i64 (bitsF (digF s)), .sl []]) else none
  | _ => none
theorem q31e_ok (args : List D) (d : D) (h : q31e args = some d) : PCall Tryd.prog 31 args d := by
  unfold q31e at h
  split at h
  · split at h
    · cases h; exact by rename_i h; exact float_c _ _ _ h
    · cases h
  · cases h

theorem Dotted.onFloat {s A B : List UInt8} (h : Dotted s A B) : q31e [.str s] = some (.agg [.int .i64 21, .int .i64 2, .str (digF s), .int .i64 (bitsF (digF s)), .sl []]) := by
  simp only [q31e]
  rw [if_pos h.ok]
/-- The form of a form is itself. -/
theorem Dotted.twice {s A B : List UInt8} (h : Dotted s A B) : digF (digF s) = digF s := by
  have h1 := h.dig
  rw [h1.eq, digF_dot _ _ h1.a]
  have hl : ∀ l : List UInt8, orZero (Lib.trimLeftB (orZero (Lib.trimLeftB l 48)) 48) = orZero (Lib.trimLeftB l 48) := fun l => by
    by_cases c : (Lib.trimLeftB l 48 == []) = true
    · rw [orZero_t c]; rfl
    · have c' : (Lib.trimLeftB l 48 == []) = false := by simpa using c
      rw [orZero_f c']
      have : Lib.trimLeftB (Lib.trimLeftB l 48) 48 = Lib.trimLeftB l 48 := by
        clear c
        unfold Lib.trimLeftB
        induction l with
        | nil => rfl
        | cons a l ih =>
          by_cases ca : (a == 48) = true
          · simp only [List.dropWhile_cons, ca, if_true]
            by_cases cn : (Lib.trimLeftB l 48 == []) = true
            · have : List.dropWhile (fun x => x == 48) l = [] := by simpa [Lib.trimLeftB] using cn
              rw [this]; rfl
            · exact ih (by simpa using cn)
          · have ca' : (a == 48) = false := by simpa using ca
            simp only [List.dropWhile_cons, ca', Bool.false_eq_true, if_false]
      rw [this, orZero_f c']
  have hr : ∀ l : List UInt8, orZero (Lib.trimRightB (orZero (Lib.trimRightB l 48)) 48) = orZero (Lib.trimRightB l 48) := fun l => by
    have rev : ∀ l : List UInt8, orZero (Lib.trimRightB l 48) = (orZero (Lib.trimLeftB l.reverse 48)).reverse := fun l => by
      unfold Lib.trimRightB orZero Lib.trimLeftB
      by_cases c : (List.dropWhile (fun x => x == 48) l.reverse == []) = true
      · have c2e : ((List.dropWhile (fun x => x == 48) l.reverse).reverse == []) = true := by simp at c ⊢; exact c
        rw [if_pos c, if_pos c2e]
        rfl
      · have c2e : ¬ ((List.dropWhile (fun x => x == 48) l.reverse).reverse == []) = true := by simp at c ⊢; exact c
        rw [if_neg c, if_neg c2e]
    rw [rev (orZero (Lib.trimRightB l 48)), rev l, List.reverse_reverse, hl]
  rw [hl, hr]
def tb12e : Tab := tb30d.addQ 12 q12e
theorem tb12e_q (g : FuncId) (args : List D) : tb12e.q g args = if g = 12 then q12e args else tb30d.q g args := rfl
theorem tb12e_a : tb12e.a = tb30d.a := rfl
theorem tb12e_c : tb12e.c = tb30d.c := rfl
theorem tb12e_ok : tb12e.ok Tryd.prog := Tab.addQ_ok tb30d_ok q12e_ok
theorem tb12e_e : type_of% (And.intro (And.intro @tb12e_q (And.intro @tb12e_a @tb12e_c)) @tb30d_e) := (And.intro (And.intro @tb12e_q (And.intro @tb12e_a @tb12e_c)) @tb30d_e)

def tb28e : Tab := tb12e.addQ 28 q28e
theorem tb28e_q (g : FuncId) (args : List D) : tb28e.q g args = if g = 28 then q28e args else tb12e.q g args := rfl
theorem tb28e_a : tb28e.a = tb12e.a := rfl
theorem tb28e_c : tb28e.c = tb12e.c := rfl
theorem tb28e_ok : tb28e.ok Tryd.prog := Tab.addQ_ok tb12e_ok q28e_ok
theorem tb28e_e : type_of% (And.intro (And.intro @tb28e_q (And.intro @tb28e_a @tb28e_c)) @tb12e_e) := (And.intro (And.intro @tb28e_q (And.intro @tb28e_a @tb28e_c)) @tb12e_e)

def tb32e : Tab := tb28e.addQ 32 q32e
theorem tb32e_q (g : FuncId) (args : List D) : tb32e.q g args = if g = 32 then q32e args else tb28e.q g args := rfl
theorem tb32e_a : tb32e.a = tb28e.a := rfl
theorem tb32e_c : tb32e.c = tb28e.c := rfl
theorem tb32e_ok : tb32e.ok Tryd.prog := Tab.addQ_ok tb28e_ok q32e_ok
theorem tb32e_e : type_of% (And.intro (And.intro @tb32e_q (And.intro @tb32e_a @tb32e_c)) @tb28e_e) := (And.intro (And.intro @tb32e_q (And.intro @tb32e_a @tb32e_c)) @tb28e_e)

def tb31e : Tab := tb32e.addQ 31 q31e
theorem tb31e_q (g : FuncId) (args : List D) : tb31e.q g args = if g = 31 then q31e args else tb32e.q g args := rfl
theorem tb31e_a : tb31e.a = tb32e.a := rfl
theorem tb31e_c : tb31e.c = tb32e.c := rfl
theorem tb31e_ok : tb31e.ok Tryd.prog := Tab.addQ_ok tb32e_ok q31e_ok
theorem tb31e_e : type_of% (And.intro (And.intro @tb31e_q (And.intro @tb31e_a @tb31e_c)) @tb32e_e) := (And.intro (And.intro @tb31e_q (And.intro @tb31e_a @tb31e_c)) @tb32e_e)

def tb26e : Tab := tb31e.addQ 26 q26e
theorem tb26e_q (g : FuncId) (args : List D) : tb26e.q g args = if g = 26 then q26e args else tb31e.q g args := rfl
theorem tb26e_a : tb26e.a = tb31e.a := rfl
theorem tb26e_c : tb26e.c = tb31e.c := rfl
theorem tb26e_ok : tb26e.ok Tryd.prog := Tab.addQ_ok tb31e_ok q26e_ok
theorem tb26e_e : type_of% (And.intro (And.intro @tb26e_q (And.intro @tb26e_a @tb26e_c)) @tb31e_e) := (And.intro (And.intro @tb26e_q (And.intro @tb26e_a @tb26e_c)) @tb31e_e)

def tb29e : Tab := tb26e.addQ 29 xFrom
theorem tb29e_q (g : FuncId) (args : List D) : tb29e.q g args = if g = 29 then xFrom args else tb26e.q g args := rfl
theorem tb29e_a : tb29e.a = tb26e.a := rfl
theorem tb29e_c : tb29e.c = tb26e.c := rfl
theorem tb29e_ok : tb29e.ok Tryd.prog := Tab.addX_ok tb26e_ok (xFrom_ok fromb)
theorem tb29e_e : type_of% (And.intro (And.intro @tb29e_q (And.intro @tb29e_a @tb29e_c)) @tb26e_e) := (And.intro (And.intro @tb29e_q (And.intro @tb29e_a @tb29e_c)) @tb26e_e)


theorem u64_wf {n : Int} (w : (Lit.int .u64 n).wf = true) : 0 ≤ n ∧ n < 18446744073709551616 := by
  simp [Lit.wf, IntKind.min, IntKind.max, IntKind.bits, IntKind.signed] at w
  omega
theorem and7 (x : Int) : ∃ m : Nat, m ≤ 7 ∧ IntKind.i64.wrap ((BitVec.ofInt IntKind.i64.bits x &&& BitVec.ofInt IntKind.i64.bits 7).toNat : Int) = (m : Int) := by
  refine ⟨(BitVec.ofInt IntKind.i64.bits x &&& BitVec.ofInt IntKind.i64.bits 7).toNat, ?_, ?_⟩
  · rw [BitVec.toNat_and]; exact Nat.le_trans Nat.and_le_right (by decide)
  · refine wrap_nat ?_
    rw [BitVec.toNat_and]; exact Nat.le_trans Nat.and_le_right (by decide)
def dgt (n : Nat) : UInt8 := UInt8.ofNat (48 + n % 10)
theorem dgt_dig (n : Nat) : isDig (dgt n) = true := by
  have h : (dgt n).toNat = 48 + n % 10 := by
    show (48 + n % 10) % 256 = _
    omega
  simp only [isDig, h, Bool.and_eq_true, decide_eq_true_eq]
  omega
theorem tmod_nat (a : Nat) (b : Nat) : (a : Int).tmod (b : Int) = ((a % b : Nat) : Int) := rfl
theorem tdiv_nat (a : Nat) (b : Nat) : (a : Int).tdiv (b : Int) = ((a / b : Nat) : Int) := rfl
theorem tmod10 (a : Nat) : (a : Int).tmod 10 = ((a % 10 : Nat) : Int) := rfl
theorem tdiv10 (a : Nat) : (a : Int).tdiv 10 = ((a / 10 : Nat) : Int) := rfl
theorem tmod7 (a : Nat) : (a : Int).tmod 10000000 = ((a % 10000000 : Nat) : Int) := rfl
theorem astDigits_c (a b : Nat) (behind : Int) (ha : a < 18446744073709551616) (hb : b < 18446744073709551616) : PCall Tryd.prog 7 [.int .u64 a, .int .u64 b, .int .i64 behind] (.bool true) := by
  refine PCall.run tb29e_ok st7e (by simp) fun E => ?_
  obtain ⟨m, hm, hw⟩ := and7 behind
  have w1 : IntKind.i64.wrap ((m : Int) + 1) = ((m + 1 : Nat) : Int) := wrap_succ (by omega)
  simp only [s7e, hw, w1, tmod7, q26e, tb29e_e, i_callNe, keptAt, Int.natCast_nonneg, Nat.le_refl, Int.le_refl, List.take_succ_cons, List.take_zero, decide_true, decide_false, Bool.and_false, Bool.false_and, zz, zzN, zzF, fltEv, isArithF, ↓reduceIte, Nat.reduceEqDiff, Nat.reduceBEq, Int.reduceLT, Int.reduceLE, Int.reduceToNat, Int.reduceEq, Int.reduceAdd, Int.reduceSub, Int.reduceMul, Int.reduceNeg, Nat.reduceMul, Nat.reduceSub, Nat.reduceLeDiff, Nat.reduceLT, Int.reduceGT, Int.reduceGE, Int.reduceBEq, Int.reduceBNe, reduceCtorEq, Nat.reduceAdd, Ins.map, Fr.ev, argFr, argE, binEv, intEv, shEv, strEv, unEv, Fr.mark, evRes, tup, lenD, lookupD, loadD, partD, storeD, cellsD, cellOk, setAt, objNe, objSame, eqEv, readEv, lent_bool, lent_int, lent_float, lent_str, lent_agg, lent_tuple, lent_sl, lent_func, lent_iface, lent_nilif, lent_same, buildD, buildRows, rowsOf, elemsOf, normX, unnil, isNil, List.any_cons, List.any_nil, List.map_cons, List.map_nil, Bool.or_false, Bool.false_or, Bool.or_true, Bool.true_or, cond_true, cond_false]
  refine run_loop (X := Nat × List UInt8 × Nat) (fun z => [(1, .int .u64 b), (7, .int .i64 (m + 1 : Nat)), (8, .str z.2.1), (9, .int .u64 z.2.2), (10, .int .i64 z.1)]) (fun _ => .emp) (fun z => 7 - z.1) (fun z => z.1 ≤ 7 ∧ z.2.1.length = z.1 ∧ z.2.1.all isDig = true ∧ z.2.2 < 18446744073709551616) (0, [], a % 10000000) ⟨Nat.zero_le _, rfl, rfl, show a % 10000000 < 18446744073709551616 by omega⟩ (by simp only [i_callNe, keptAt, Int.natCast_nonneg, Nat.le_refl, Int.le_refl, List.take_succ_cons, List.take_zero, decide_true, decide_false, Bool.and_false, Bool.false_and, zz, zzN, zzF, fltEv, isArithF, ↓reduceIte, Nat.reduceEqDiff, Nat.reduceBEq, Int.reduceLT, Int.reduceLE, Int.reduceToNat, Int.reduceEq, Int.reduceAdd, Int.reduceSub, Int.reduceMul, Int.reduceNeg, Nat.reduceMul, Nat.reduceSub, Nat.reduceLeDiff, Nat.reduceLT, Int.reduceGT, Int.reduceGE, Int.reduceBEq, Int.reduceBNe, reduceCtorEq, Nat.reduceAdd, Ins.map, Fr.ev, argFr, argE, binEv, intEv, shEv, strEv, unEv, Fr.mark, evRes, tup, lenD, lookupD, loadD, partD, storeD, cellsD, cellOk, setAt, objNe, objSame, eqEv, readEv, lent_bool, lent_int, lent_float, lent_str, lent_agg, lent_tuple, lent_sl, lent_func, lent_iface, lent_nilif, lent_same, buildD, buildRows, rowsOf, elemsOf, normX, unnil, isNil, List.any_cons, List.any_nil, List.map_cons, List.map_nil, Bool.or_false, Bool.false_or, Bool.or_true, Bool.true_or, cond_true, cond_false]) sub_emp ?_
  rintro ⟨i, X, n⟩ Q ⟨i1, i2, i3, i4⟩ hQ
  simp only at i1 i2 i3 i4 hQ ⊢
  have step : ∀ n : Nat, IntKind.u8.wrap (IntKind.u64.wrap (48 + ((n % 10 : Nat) : Int))) = ((48 + n % 10 : Nat) : Int) := fun n => by
    rw [wrap_u64 (by omega) (by omega), wrap_u8]; omega
  have stepU : ∀ n : Nat, n < 18446744073709551616 → IntKind.u64.wrap ((n / 10 : Nat) : Int) = ((n / 10 : Nat) : Int) := fun n hn => wrap_u64 (by omega) (by omega)
  have toDgt : ∀ n : Nat, UInt8.ofNat (48 + n % 10) = dgt n := fun n => rfl
  have wi : IntKind.i64.wrap ((i : Int) + 1) = ((i + 1 : Nat) : Int) := wrap_succ (by omega)
  by_cases c : i < 7
  · have g1 : ((i : Int) < 7) = True := eq_true (by omega)
    have su := stepU n i4
    simp only [g1, wi, step, su, tmod10, tdiv10, toDgt, Int.toNat_natCast, List.length_cons, List.length_nil, List.length_append, tb29e_e, i_callNe, keptAt, Int.natCast_nonneg, Nat.le_refl, Int.le_refl, List.take_succ_cons, List.take_zero, decide_true, decide_false, Bool.and_false, Bool.false_and, zz, zzN, zzF, fltEv, isArithF, ↓reduceIte, Nat.reduceEqDiff, Nat.reduceBEq, Int.reduceLT, Int.reduceLE, Int.reduceToNat, Int.reduceEq, Int.reduceAdd, Int.reduceSub, Int.reduceMul, Int.reduceNeg, Nat.reduceMul, Nat.reduceSub, Nat.reduceLeDiff, Nat.reduceLT, Int.reduceGT, Int.reduceGE, Int.reduceBEq, Int.reduceBNe, reduceCtorEq, Nat.reduceAdd, Ins.map, Fr.ev, argFr, argE, binEv, intEv, shEv, strEv, unEv, Fr.mark, evRes, tup, lenD, lookupD, loadD, partD, storeD, cellsD, cellOk, setAt, objNe, objSame, eqEv, readEv, lent_bool, lent_int, lent_float, lent_str, lent_agg, lent_tuple, lent_sl, lent_func, lent_iface, lent_nilif, lent_same, buildD, buildRows, rowsOf, elemsOf, normX, unnil, isNil, List.any_cons, List.any_nil, List.map_cons, List.map_nil, Bool.or_false, Bool.false_or, Bool.or_true, Bool.true_or, cond_true, cond_false]
    refine ⟨by omega, ?_⟩
    exact hQ (i + 1, [dgt n] ++ X, n / 10) _ _ ⟨by omega, by simp [i2], by rw [List.all_append, i3]; simp [dgt_dig], show n / 10 < 18446744073709551616 by omega⟩ (by simp only [i_callNe, keptAt, Int.natCast_nonneg, Nat.le_refl, Int.le_refl, List.take_succ_cons, List.take_zero, decide_true, decide_false, Bool.and_false, Bool.false_and, zz, zzN, zzF, fltEv, isArithF, ↓reduceIte, Nat.reduceEqDiff, Nat.reduceBEq, Int.reduceLT, Int.reduceLE, Int.reduceToNat, Int.reduceEq, Int.reduceAdd, Int.reduceSub, Int.reduceMul, Int.reduceNeg, Nat.reduceMul, Nat.reduceSub, Nat.reduceLeDiff, Nat.reduceLT, Int.reduceGT, Int.reduceGE, Int.reduceBEq, Int.reduceBNe, reduceCtorEq, Nat.reduceAdd, Ins.map, Fr.ev, argFr, argE, binEv, intEv, shEv, strEv, unEv, Fr.mark, evRes, tup, lenD, lookupD, loadD, partD, storeD, cellsD, cellOk, setAt, objNe, objSame, eqEv, readEv, lent_bool, lent_int, lent_float, lent_str, lent_agg, lent_tuple, lent_sl, lent_func, lent_iface, lent_nilif, lent_same, buildD, buildRows, rowsOf, elemsOf, normX, unnil, isNil, List.any_cons, List.any_nil, List.map_cons, List.map_nil, Bool.or_false, Bool.false_or, Bool.or_true, Bool.true_or, cond_true, cond_false]) sub_emp (by simp only; omega)
  · have e0 : i = 7 := by omega
    subst e0
    simp only [List.length_cons, List.length_nil, tb29e_e, i_callNe, keptAt, Int.natCast_nonneg, Nat.le_refl, Int.le_refl, List.take_succ_cons, List.take_zero, decide_true, decide_false, Bool.and_false, Bool.false_and, zz, zzN, zzF, fltEv, isArithF, ↓reduceIte, Nat.reduceEqDiff, Nat.reduceBEq, Int.reduceLT, Int.reduceLE, Int.reduceToNat, Int.reduceEq, Int.reduceAdd, Int.reduceSub, Int.reduceMul, Int.reduceNeg, Nat.reduceMul, Nat.reduceSub, Nat.reduceLeDiff, Nat.reduceLT, Int.reduceGT, Int.reduceGE, Int.reduceBEq, Int.reduceBNe, reduceCtorEq, Nat.reduceAdd, Ins.map, Fr.ev, argFr, argE, binEv, intEv, shEv, strEv, unEv, Fr.mark, evRes, tup, lenD, lookupD, loadD, partD, storeD, cellsD, cellOk, setAt, objNe, objSame, eqEv, readEv, lent_bool, lent_int, lent_float, lent_str, lent_agg, lent_tuple, lent_sl, lent_func, lent_iface, lent_nilif, lent_same, buildD, buildRows, rowsOf, elemsOf, normX, unnil, isNil, List.any_cons, List.any_nil, List.map_cons, List.map_nil, Bool.or_false, Bool.false_or, Bool.or_true, Bool.true_or, cond_true, cond_false]
    refine ⟨by omega, ?_⟩
    clear hQ Q wi c i1
    refine run_loop (X := Nat × List UInt8 × Nat) (fun z => [(7, .int .i64 (m + 1 : Nat)), (8, .str (X ++ [46] ++ z.2.1)), (11, .int .u64 z.2.2), (12, .int .i64 z.1)]) (fun _ => .emp) (fun z => m + 1 - z.1) (fun z => z.1 ≤ m + 1 ∧ z.2.1.length = z.1 ∧ z.2.1.all isDig = true ∧ z.2.2 < 18446744073709551616) (0, [], b) ⟨by omega, rfl, rfl, hb⟩ (by simp only [List.append_nil, i_callNe, keptAt, Int.natCast_nonneg, Nat.le_refl, Int.le_refl, List.take_succ_cons, List.take_zero, decide_true, decide_false, Bool.and_false, Bool.false_and, zz, zzN, zzF, fltEv, isArithF, ↓reduceIte, Nat.reduceEqDiff, Nat.reduceBEq, Int.reduceLT, Int.reduceLE, Int.reduceToNat, Int.reduceEq, Int.reduceAdd, Int.reduceSub, Int.reduceMul, Int.reduceNeg, Nat.reduceMul, Nat.reduceSub, Nat.reduceLeDiff, Nat.reduceLT, Int.reduceGT, Int.reduceGE, Int.reduceBEq, Int.reduceBNe, reduceCtorEq, Nat.reduceAdd, Ins.map, Fr.ev, argFr, argE, binEv, intEv, shEv, strEv, unEv, Fr.mark, evRes, tup, lenD, lookupD, loadD, partD, storeD, cellsD, cellOk, setAt, objNe, objSame, eqEv, readEv, lent_bool, lent_int, lent_float, lent_str, lent_agg, lent_tuple, lent_sl, lent_func, lent_iface, lent_nilif, lent_same, buildD, buildRows, rowsOf, elemsOf, normX, unnil, isNil, List.any_cons, List.any_nil, List.map_cons, List.map_nil, Bool.or_false, Bool.false_or, Bool.or_true, Bool.true_or, cond_true, cond_false]) sub_emp ?_
    rintro ⟨i, Y, n⟩ Q ⟨i1, i4, i5, i6⟩ hQ
    simp only at i1 i4 i5 i6 hQ ⊢
    have wi : IntKind.i64.wrap ((i : Int) + 1) = ((i + 1 : Nat) : Int) := wrap_succ (by omega)
    by_cases c : i < m + 1
    · have g1 : ((i : Int) < ((m + 1 : Nat) : Int)) = True := eq_true (by omega)
      have su := stepU n i6
      simp only [g1, wi, step, su, tmod10, tdiv10, toDgt, Int.toNat_natCast, List.length_cons, List.length_nil, List.length_append, tb29e_e, i_callNe, keptAt, Int.natCast_nonneg, Nat.le_refl, Int.le_refl, List.take_succ_cons, List.take_zero, decide_true, decide_false, Bool.and_false, Bool.false_and, zz, zzN, zzF, fltEv, isArithF, ↓reduceIte, Nat.reduceEqDiff, Nat.reduceBEq, Int.reduceLT, Int.reduceLE, Int.reduceToNat, Int.reduceEq, Int.reduceAdd, Int.reduceSub, Int.reduceMul, Int.reduceNeg, Nat.reduceMul, Nat.reduceSub, Nat.reduceLeDiff, Nat.reduceLT, Int.reduceGT, Int.reduceGE, Int.reduceBEq, Int.reduceBNe, reduceCtorEq, Nat.reduceAdd, Ins.map, Fr.ev, argFr, argE, binEv, intEv, shEv, strEv, unEv, Fr.mark, evRes, tup, lenD, lookupD, loadD, partD, storeD, cellsD, cellOk, setAt, objNe, objSame, eqEv, readEv, lent_bool, lent_int, lent_float, lent_str, lent_agg, lent_tuple, lent_sl, lent_func, lent_iface, lent_nilif, lent_same, buildD, buildRows, rowsOf, elemsOf, normX, unnil, isNil, List.any_cons, List.any_nil, List.map_cons, List.map_nil, Bool.or_false, Bool.false_or, Bool.or_true, Bool.true_or, cond_true, cond_false]
      refine ⟨by omega, ?_⟩
      exact hQ (i + 1, Y ++ [dgt n], n / 10) _ _ ⟨by omega, by simp [i4], by rw [List.all_append, i5]; simp [dgt_dig], show n / 10 < 18446744073709551616 by omega⟩ (by simp only [List.append_assoc, i_callNe, keptAt, Int.natCast_nonneg, Nat.le_refl, Int.le_refl, List.take_succ_cons, List.take_zero, decide_true, decide_false, Bool.and_false, Bool.false_and, zz, zzN, zzF, fltEv, isArithF, ↓reduceIte, Nat.reduceEqDiff, Nat.reduceBEq, Int.reduceLT, Int.reduceLE, Int.reduceToNat, Int.reduceEq, Int.reduceAdd, Int.reduceSub, Int.reduceMul, Int.reduceNeg, Nat.reduceMul, Nat.reduceSub, Nat.reduceLeDiff, Nat.reduceLT, Int.reduceGT, Int.reduceGE, Int.reduceBEq, Int.reduceBNe, reduceCtorEq, Nat.reduceAdd, Ins.map, Fr.ev, argFr, argE, binEv, intEv, shEv, strEv, unEv, Fr.mark, evRes, tup, lenD, lookupD, loadD, partD, storeD, cellsD, cellOk, setAt, objNe, objSame, eqEv, readEv, lent_bool, lent_int, lent_float, lent_str, lent_agg, lent_tuple, lent_sl, lent_func, lent_iface, lent_nilif, lent_same, buildD, buildRows, rowsOf, elemsOf, normX, unnil, isNil, List.any_cons, List.any_nil, List.map_cons, List.map_nil, Bool.or_false, Bool.false_or, Bool.or_true, Bool.true_or, cond_true, cond_false]) sub_emp (by simp only; omega)
    · have e0 : i = m + 1 := by omega
      subst e0
      have g1 : (((m + 1 : Nat) : Int) < ((m + 1 : Nat) : Int)) = False := eq_false (by omega)
      have hD : Dotted (X ++ [46] ++ Y) X Y := ⟨rfl, i3, i5, by omega, by omega, by omega⟩
      generalize X ++ [46] ++ Y = s at hD
      have hE := hD.dig
      have d1 := hD.onDig
      have d2 := hE.onParts
      have d3 := hE.onBits
      have d4 := hD.onFloat
      have d5 := hD.onRef
      have d6 := hE.onDig
      have d7 := hD.twice
      rw [d7] at d6
      have hbits := hE.bits
      have hlB := hE.len
      have hAd := hE.a
      have hBd := hE.b
      generalize orZero (Lib.trimLeftB X 48) = A at *
      generalize orZero (Lib.trimRightB Y 48) = B at *
      generalize digF s = d at *
      have v15 : valF (A ++ B) < 1000000000000000 := valF_53 (by rw [List.all_append, hAd, hBd]; rfl) (by rw [List.length_append]; exact hlB)
      have p10e := pow10_le (n := B.length) (by omega)
      obtain ⟨m1, m2⟩ := quoF_eq (m := valF (A ++ B)) (n := 10 ^ B.length) (by omega) (by omega) (Nat.pow_pos (by decide))
      generalize hV : valF (A ++ B) = V at *
      simp only [g1, d1, d2, tb29e_e, i_callNe, keptAt, Int.natCast_nonneg, Nat.le_refl, Int.le_refl, List.take_succ_cons, List.take_zero, decide_true, decide_false, Bool.and_false, Bool.false_and, zz, zzN, zzF, fltEv, isArithF, ↓reduceIte, Nat.reduceEqDiff, Nat.reduceBEq, Int.reduceLT, Int.reduceLE, Int.reduceToNat, Int.reduceEq, Int.reduceAdd, Int.reduceSub, Int.reduceMul, Int.reduceNeg, Nat.reduceMul, Nat.reduceSub, Nat.reduceLeDiff, Nat.reduceLT, Int.reduceGT, Int.reduceGE, Int.reduceBEq, Int.reduceBNe, reduceCtorEq, Nat.reduceAdd, Ins.map, Fr.ev, argFr, argE, binEv, intEv, shEv, strEv, unEv, Fr.mark, evRes, tup, lenD, lookupD, loadD, partD, storeD, cellsD, cellOk, setAt, objNe, objSame, eqEv, readEv, lent_bool, lent_int, lent_float, lent_str, lent_agg, lent_tuple, lent_sl, lent_func, lent_iface, lent_nilif, lent_same, buildD, buildRows, rowsOf, elemsOf, normX, unnil, isNil, List.any_cons, List.any_nil, List.map_cons, List.map_nil, Bool.or_false, Bool.false_or, Bool.or_true, Bool.true_or, cond_true, cond_false]
      clear hQ Q wi
      refine run_loop (X := Nat) (fun i => [(8, .str s), (13, .str d), (14, .int .i64 V), (15, .int .i64 B.length), (16, .int .i64 (10 ^ i : Nat)), (17, .int .i64 i)]) (fun _ => .emp) (fun i => B.length - i) (fun i => i ≤ B.length) 0 (Nat.zero_le _) (by simp only [Nat.pow_zero, i_callNe, keptAt, Int.natCast_nonneg, Nat.le_refl, Int.le_refl, List.take_succ_cons, List.take_zero, decide_true, decide_false, Bool.and_false, Bool.false_and, zz, zzN, zzF, fltEv, isArithF, ↓reduceIte, Nat.reduceEqDiff, Nat.reduceBEq, Int.reduceLT, Int.reduceLE, Int.reduceToNat, Int.reduceEq, Int.reduceAdd, Int.reduceSub, Int.reduceMul, Int.reduceNeg, Nat.reduceMul, Nat.reduceSub, Nat.reduceLeDiff, Nat.reduceLT, Int.reduceGT, Int.reduceGE, Int.reduceBEq, Int.reduceBNe, reduceCtorEq, Nat.reduceAdd, Ins.map, Fr.ev, argFr, argE, binEv, intEv, shEv, strEv, unEv, Fr.mark, evRes, tup, lenD, lookupD, loadD, partD, storeD, cellsD, cellOk, setAt, objNe, objSame, eqEv, readEv, lent_bool, lent_int, lent_float, lent_str, lent_agg, lent_tuple, lent_sl, lent_func, lent_iface, lent_nilif, lent_same, buildD, buildRows, rowsOf, elemsOf, normX, unnil, isNil, List.any_cons, List.any_nil, List.map_cons, List.map_nil, Bool.or_false, Bool.false_or, Bool.or_true, Bool.true_or, cond_true, cond_false]) sub_emp ?_
      intro i Q hi hQ
      have wi : IntKind.i64.wrap ((i : Int) + 1) = ((i + 1 : Nat) : Int) := wrap_succ (by omega)
      by_cases c : i < B.length
      · have g1 : ((i : Int) < (B.length : Int)) = True := eq_true (by omega)
        have p1e := pow10_le (n := i + 1) (by omega)
        have w2 : IntKind.i64.wrap (((10 ^ i : Nat) : Int) * 10) = ((10 ^ (i + 1) : Nat) : Int) := by
          rw [Nat.pow_succ] at p1e ⊢
          rw [wrap_i64 (by omega) (by omega)]; omega
        simp only [g1, wi, w2, tb29e_e, i_callNe, keptAt, Int.natCast_nonneg, Nat.le_refl, Int.le_refl, List.take_succ_cons, List.take_zero, decide_true, decide_false, Bool.and_false, Bool.false_and, zz, zzN, zzF, fltEv, isArithF, ↓reduceIte, Nat.reduceEqDiff, Nat.reduceBEq, Int.reduceLT, Int.reduceLE, Int.reduceToNat, Int.reduceEq, Int.reduceAdd, Int.reduceSub, Int.reduceMul, Int.reduceNeg, Nat.reduceMul, Nat.reduceSub, Nat.reduceLeDiff, Nat.reduceLT, Int.reduceGT, Int.reduceGE, Int.reduceBEq, Int.reduceBNe, reduceCtorEq, Nat.reduceAdd, Ins.map, Fr.ev, argFr, argE, binEv, intEv, shEv, strEv, unEv, Fr.mark, evRes, tup, lenD, lookupD, loadD, partD, storeD, cellsD, cellOk, setAt, objNe, objSame, eqEv, readEv, lent_bool, lent_int, lent_float, lent_str, lent_agg, lent_tuple, lent_sl, lent_func, lent_iface, lent_nilif, lent_same, buildD, buildRows, rowsOf, elemsOf, normX, unnil, isNil, List.any_cons, List.any_nil, List.map_cons, List.map_nil, Bool.or_false, Bool.false_or, Bool.or_true, Bool.true_or, cond_true, cond_false]
        exact hQ (i + 1) _ _ (by omega) (by simp only [i_callNe, keptAt, Int.natCast_nonneg, Nat.le_refl, Int.le_refl, List.take_succ_cons, List.take_zero, decide_true, decide_false, Bool.and_false, Bool.false_and, zz, zzN, zzF, fltEv, isArithF, ↓reduceIte, Nat.reduceEqDiff, Nat.reduceBEq, Int.reduceLT, Int.reduceLE, Int.reduceToNat, Int.reduceEq, Int.reduceAdd, Int.reduceSub, Int.reduceMul, Int.reduceNeg, Nat.reduceMul, Nat.reduceSub, Nat.reduceLeDiff, Nat.reduceLT, Int.reduceGT, Int.reduceGE, Int.reduceBEq, Int.reduceBNe, reduceCtorEq, Nat.reduceAdd, Ins.map, Fr.ev, argFr, argE, binEv, intEv, shEv, strEv, unEv, Fr.mark, evRes, tup, lenD, lookupD, loadD, partD, storeD, cellsD, cellOk, setAt, objNe, objSame, eqEv, readEv, lent_bool, lent_int, lent_float, lent_str, lent_agg, lent_tuple, lent_sl, lent_func, lent_iface, lent_nilif, lent_same, buildD, buildRows, rowsOf, elemsOf, normX, unnil, isNil, List.any_cons, List.any_nil, List.map_cons, List.map_nil, Bool.or_false, Bool.false_or, Bool.or_true, Bool.true_or, cond_true, cond_false]) sub_emp (by omega)
      · have e0 : i = B.length := by omega
        subst e0
        have g1 : ((B.length : Int) < (B.length : Int)) = False := eq_false (by omega)
        have hb1 : IntKind.u64.wrap (bitsF d) = ((quoF V (10 ^ B.length) : Nat) : Int) := by
          rw [hbits]
          generalize quoF V (10 ^ B.length) = r at m2
          have : IntKind.i64.wrap (r : Int) = r := wrap_nat (by omega)
          rw [this]
          exact wrap_u64 (by omega) (by omega)
        have ho := fx_order _ m2
        have dd : (d == d) = true := by simp
        have bb : (bitsF d == bitsF d) = true := by simp
        simp only [g1, d3, hb1, d4, d5, d6, q12e, xFrom, fx_int, m1, Int.toNat_natCast, ho, dd, bb, tb29e_e, i_callNe, keptAt, Int.natCast_nonneg, Nat.le_refl, Int.le_refl, List.take_succ_cons, List.take_zero, decide_true, decide_false, Bool.and_false, Bool.false_and, zz, zzN, zzF, fltEv, isArithF, ↓reduceIte, Nat.reduceEqDiff, Nat.reduceBEq, Int.reduceLT, Int.reduceLE, Int.reduceToNat, Int.reduceEq, Int.reduceAdd, Int.reduceSub, Int.reduceMul, Int.reduceNeg, Nat.reduceMul, Nat.reduceSub, Nat.reduceLeDiff, Nat.reduceLT, Int.reduceGT, Int.reduceGE, Int.reduceBEq, Int.reduceBNe, reduceCtorEq, Nat.reduceAdd, Ins.map, Fr.ev, argFr, argE, binEv, intEv, shEv, strEv, unEv, Fr.mark, evRes, tup, lenD, lookupD, loadD, partD, storeD, cellsD, cellOk, setAt, objNe, objSame, eqEv, readEv, lent_bool, lent_int, lent_float, lent_str, lent_agg, lent_tuple, lent_sl, lent_func, lent_iface, lent_nilif, lent_same, buildD, buildRows, rowsOf, elemsOf, normX, unnil, isNil, List.any_cons, List.any_nil, List.map_cons, List.map_nil, Bool.or_false, Bool.false_or, Bool.or_true, Bool.true_or, cond_true, cond_false]
theorem astDigits_i (a b behind : Int) (wa : (Lit.int .u64 a).wf = true) (wb : (Lit.int .u64 b).wf = true) : PCall Tryd.prog 7 [.int .u64 a, .int .u64 b, .int .i64 behind] (.bool true) := by
  have ha := u64_wf wa
  have hb := u64_wf wb
  have := astDigits_c a.toNat b.toNat behind (by omega) (by omega)
  rw [Int.toNat_of_nonneg ha.1, Int.toNat_of_nonneg hb.1] at this
  exact this
end
end Go.Proofs.YthpgepillaeldaaDoor.Zz
