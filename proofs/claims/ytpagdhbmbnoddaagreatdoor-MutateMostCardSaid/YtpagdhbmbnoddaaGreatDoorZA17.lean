/- Contracts: what a node turns into. -/
import Derived.Test.YtpagdhbmbnoddaaGreatDoorZP4
import Derived.Test.YtpagdhbmbnoddaaGreatDoorZA0
import Derived.Test.YtpagdhbmbnoddaaGreatDoorZP1
set_option linter.unnecessarySimpa false
namespace Go.Proofs.YtpagdhbmbnoddaaGreatDoor.Zz
noncomputable section
set_option linter.unusedVariables false
set_option linter.unusedSimpArgs false
set_option maxRecDepth 20000
def p37m : Plan := ⟨⟨[], [], [], [], [], []⟩, [], [], false⟩
/-- cupel/mutate.swaps (1 parameters, 0 captured) -/
def s37m : Stm :=
 .seq (.ops [⟨.mov (.c .nilsl), (some 2), none, true⟩])
 (.seq (.seq (.ops [⟨.mov (.t 0), (some 3), none, true⟩])
 (.block 0 (.seq (.ops [⟨.bin .eql (.t 3) (.c (.str [43])), (some 5), none, true⟩,
 ⟨.mov (.t 5), (some 4), none, true⟩])
 (.cond (.t 4)
 (.seq (.ops [⟨.buildSlice 1 [(.str [])] 1 [(0, (.c (.str [45])))] false, (some 6), none, true⟩,
 ⟨.mov (.t 6), (some 2), none, true⟩])
 (.ret))
 (.seq (.ops [⟨.bin .eql (.t 3) (.c (.str [45])), (some 8), none, true⟩,
 ⟨.mov (.t 8), (some 7), none, true⟩])
 (.cond (.t 7)
 (.seq (.ops [⟨.buildSlice 1 [(.str [])] 1 [(0, (.c (.str [43])))] false, (some 9), none, true⟩,
 ⟨.mov (.t 9), (some 2), none, true⟩])
 (.ret))
 (.seq (.ops [⟨.bin .eql (.t 3) (.c (.str [42])), (some 11), none, true⟩,
 ⟨.mov (.t 11), (some 10), none, true⟩])
 (.cond (.t 10)
 (.seq (.ops [⟨.buildSlice 1 [(.str [])] 1 [(0, (.c (.str [47])))] false, (some 12), none, true⟩,
 ⟨.mov (.t 12), (some 2), none, true⟩])
 (.ret))
 (.seq (.seq (.ops [⟨.bin .eql (.t 3) (.c (.str [47])), (some 14), none, true⟩,
 ⟨.mov (.t 14), (some 13), none, true⟩])
 (.cond (.t 13)
 (.skip)
 (.ops [⟨.bin .eql (.t 3) (.c (.str [37])), (some 15), none, true⟩,
 ⟨.mov (.t 15), (some 13), none, true⟩])))
 (.cond (.t 13)
 (.seq (.ops [⟨.buildSlice 1 [(.str [])] 1 [(0, (.c (.str [42])))] false, (some 16), none, true⟩,
 ⟨.mov (.t 16), (some 2), none, true⟩])
 (.ret))
 (.seq (.ops [⟨.bin .eql (.t 3) (.c (.str [60])), (some 18), none, true⟩,
 ⟨.mov (.t 18), (some 17), none, true⟩])
 (.cond (.t 17)
 (.seq (.ops [⟨.buildSlice 1 [(.str [])] 2 [(0, (.c (.str [60, 61]))), (1, (.c (.str [62, 61])))] false, (some 19), none, true⟩,
 ⟨.mov (.t 19), (some 2), none, true⟩])
 (.ret))
 (.seq (.ops [⟨.bin .eql (.t 3) (.c (.str [60, 61])), (some 21), none, true⟩,
 ⟨.mov (.t 21), (some 20), none, true⟩])
 (.cond (.t 20)
 (.seq (.ops [⟨.buildSlice 1 [(.str [])] 2 [(0, (.c (.str [60]))), (1, (.c (.str [62])))] false, (some 22), none, true⟩,
 ⟨.mov (.t 22), (some 2), none, true⟩])
 (.ret))
 (.seq (.ops [⟨.bin .eql (.t 3) (.c (.str [62])), (some 24), none, true⟩,
 ⟨.mov (.t 24), (some 23), none, true⟩])
 (.cond (.t 23)
 (.seq (.ops [⟨.buildSlice 1 [(.str [])] 2 [(0, (.c (.str [62, 61]))), (1, (.c (.str [60, 61])))] false, (some 25), none, true⟩,
 ⟨.mov (.t 25), (some 2), none, true⟩])
 (.ret))
 (.seq (.ops [⟨.bin .eql (.t 3) (.c (.str [62, 61])), (some 27), none, true⟩,
 ⟨.mov (.t 27), (some 26), none, true⟩])
 (.cond (.t 26)
 (.seq (.ops [⟨.buildSlice 1 [(.str [])] 2 [(0, (.c (.str [62]))), (1, (.c (.str [60])))] false, (some 28), none, true⟩,
 ⟨.mov (.t 28), (some 2), none, true⟩])
 (.ret))
 (.seq (.ops [⟨.bin .eql (.t 3) (.c (.str [61, 61])), (some 30), none, true⟩,
 ⟨.mov (.t 30), (some 29), none, true⟩])
 (.cond (.t 29)
 (.seq (.ops [⟨.buildSlice 1 [(.str [])] 1 [(0, (.c (.str [33, 61])))] false, (some 31), none, true⟩,
 ⟨.mov (.t 31), (some 2), none, true⟩])
 (.ret))
 (.seq (.ops [⟨.bin .eql (.t 3) (.c (.str [33, 61])), (some 33), none, true⟩,
 ⟨.mov (.t 33), (some 32), none, true⟩])
 (.cond (.t 32)
 (.seq (.ops [⟨.buildSlice 1 [(.str [])] 1 [(0, (.c (.str [61, 61])))] false, (some 34), none, true⟩,
 ⟨.mov (.t 34), (some 2), none, true⟩])
 (.ret))
 (.seq (.ops [⟨.bin .eql (.t 3) (.c (.str [38, 38])), (some 36), none, true⟩,
 ⟨.mov (.t 36), (some 35), none, true⟩])
 (.cond (.t 35)
 (.seq (.ops [⟨.buildSlice 1 [(.str [])] 1 [(0, (.c (.str [124, 124])))] false, (some 37), none, true⟩,
 ⟨.mov (.t 37), (some 2), none, true⟩])
 (.ret))
 (.seq (.ops [⟨.bin .eql (.t 3) (.c (.str [124, 124])), (some 39), none, true⟩,
 ⟨.mov (.t 39), (some 38), none, true⟩])
 (.cond (.t 38)
 (.seq (.ops [⟨.buildSlice 1 [(.str [])] 1 [(0, (.c (.str [38, 38])))] false, (some 40), none, true⟩,
 ⟨.mov (.t 40), (some 2), none, true⟩])
 (.ret))
 (.skip)))))))))))))))))))))))))))
 (.seq (.ops [⟨.mov (.c .nilsl), (some 2), none, true⟩])
 (.ret)))
theorem st37m : stmOf Tryz.prog 37 p37m = some (s37m, [.tmp 2], 41) := by kernel_rfl

def p38m : Plan := ⟨⟨[], [], [], [], [], []⟩, [], [], false⟩
/-- cupel/mutate.ints (1 parameters, 0 captured) -/
def s38m : Stm :=
 .seq (.ops [⟨.mov (.c .nilsl), (some 2), none, true⟩])
 (.seq (.seq (.ops [⟨.mov (.t 0), (some 3), none, true⟩,
 ⟨.bin .eql (.t 3) (.c (.int .i64 9223372036854775807)), (some 4), none, true⟩])
 (.cond (.t 4)
 (.seq (.ops [⟨.mov (.t 0), (some 5), none, true⟩,
 ⟨.bin .sub (.t 5) (.c (.int .i64 1)), (some 6), none, true⟩,
 ⟨.buildSlice 1 [(.int .i64 0)] 2 [(0, (.t 6)), (1, (.c (.int .i64 0)))] false, (some 7), none, true⟩,
 ⟨.mov (.t 7), (some 2), none, true⟩])
 (.ret))
 (.skip)))
 (.seq (.seq (.ops [⟨.mov (.t 0), (some 8), none, true⟩,
 ⟨.bin .gtr (.t 8) (.c (.int .i64 1)), (some 9), none, true⟩])
 (.cond (.t 9)
 (.seq (.ops [⟨.mov (.t 0), (some 10), none, true⟩,
 ⟨.bin .add (.t 10) (.c (.int .i64 1)), (some 11), none, true⟩,
 ⟨.buildSlice 1 [(.int .i64 0)] 2 [(0, (.t 11)), (1, (.c (.int .i64 0)))] false, (some 12), none, true⟩,
 ⟨.mov (.t 12), (some 2), none, true⟩])
 (.ret))
 (.skip)))
 (.seq (.ops [⟨.mov (.t 0), (some 13), none, true⟩,
 ⟨.bin .add (.t 13) (.c (.int .i64 1)), (some 14), none, true⟩,
 ⟨.buildSlice 1 [(.int .i64 0)] 1 [(0, (.t 14))] false, (some 15), none, true⟩,
 ⟨.mov (.t 15), (some 2), none, true⟩])
 (.ret))))
theorem st38m : stmOf Tryz.prog 38 p38m = some (s38m, [.tmp 2], 16) := by kernel_rfl

def p19m : Plan := ⟨⟨[], [], [], [], [], []⟩, [], [], false⟩
/-- cupel/mutate.Turns (1 parameters, 0 captured) -/
def s19m : Stm :=
 .seq (.ops [⟨.box (.t 0), (some 1), none, false⟩,
 ⟨.mov (.c .nilsl), (some 2), none, true⟩])
 (.seq (.ops [⟨.mov (.c .nilsl), (some 3), none, true⟩])
 (.seq (.seq (.ops [⟨.fieldAddr 0 (.t 1), (some 12), none, true⟩,
 ⟨.load none (.t 12), (some 13), none, false⟩])
 (.block 0 (.seq (.ops [⟨.bin .eql (.t 13) (.c (.int .i64 26)), (some 15), none, true⟩,
 ⟨.mov (.t 15), (some 14), none, true⟩])
 (.cond (.t 14)
 (.seq (.ops [⟨.fieldAddr 2 (.t 1), (some 16), none, true⟩,
 ⟨.load none (.t 16), (some 17), none, false⟩,
 ⟨.qcall (.f 37) [(.t 17)], (some 18), none, false⟩,
 ⟨.len .sl (.t 18), (some 19), none, false⟩,
 ⟨.mov (.c (.int .i64 0)), (some 20), none, true⟩])
 (.block 1 (.loop (.seq (.ops [⟨.bin .lss (.t 20) (.t 19), (some 21), none, true⟩])
 (.seq (.cond (.t 21)
 (.skip)
 (.exit 1))
 (.seq (.block 2 (.seq (.ops [⟨.indexAddrS 1 (.t 18) (.t 20), (some 22), none, false⟩,
 ⟨.load none (.t 22), (some 23), none, false⟩,
 ⟨.mov (.t 23), (some 5), none, true⟩])
 (.seq (.ops [⟨.load (some 5) (.t 1), (some 24), none, false⟩,
 ⟨.alloc [(.int .i64 0), (.int .i64 0), (.str []), (.int .i64 0), .nilsl], (some 6), none, false⟩,
 ⟨.store 5 (.t 6) (.t 24), none, none, false⟩])
 (.seq (.ops [⟨.mov (.t 5), (some 25), none, true⟩,
 ⟨.fieldAddr 2 (.t 6), (some 26), none, true⟩,
 ⟨.store 1 (.t 26) (.t 25), none, none, false⟩])
 (.ops [⟨.mov (.t 3), (some 27), none, true⟩,
 ⟨.load (some 5) (.t 6), (some 28), none, false⟩,
 ⟨.buildSlice 5 [(.int .i64 0), (.int .i64 0), (.str []), (.int .i64 0), .nilsl] 1 [(0, (.t 28))] false, (some 29), none, true⟩,
 ⟨.append 5 64 false (.t 27) (.t 29), (some 30), none, false⟩,
 ⟨.mov (.t 30), (some 3), none, true⟩])))))
 (.ops [⟨.bin .add (.t 20) (.c (.int .i64 1)), (some 31), none, true⟩,
 ⟨.mov (.t 31), (some 20), none, true⟩])))))))
 (.seq (.ops [⟨.bin .eql (.t 13) (.c (.int .i64 25)), (some 33), none, true⟩,
 ⟨.mov (.t 33), (some 32), none, true⟩])
 (.cond (.t 32)
 (.ops [⟨.mov (.t 3), (some 34), none, true⟩,
 ⟨.fieldAddr 4 (.t 1), (some 35), none, true⟩,
 ⟨.load none (.t 35), (some 36), none, false⟩,
 ⟨.append 5 64 false (.t 34) (.t 36), (some 37), none, false⟩,
 ⟨.mov (.t 37), (some 3), none, true⟩])
 (.seq (.ops [⟨.bin .eql (.t 13) (.c (.int .i64 20)), (some 39), none, true⟩,
 ⟨.mov (.t 39), (some 38), none, true⟩])
 (.cond (.t 38)
 (.seq (.ops [⟨.fieldAddr 3 (.t 1), (some 40), none, true⟩,
 ⟨.load none (.t 40), (some 41), none, false⟩,
 ⟨.qcall (.f 38) [(.t 41)], (some 42), none, false⟩,
 ⟨.len .sl (.t 42), (some 43), none, false⟩,
 ⟨.mov (.c (.int .i64 0)), (some 44), none, true⟩])
 (.block 3 (.loop (.seq (.ops [⟨.bin .lss (.t 44) (.t 43), (some 45), none, true⟩])
 (.seq (.cond (.t 45)
 (.skip)
 (.exit 3))
 (.seq (.block 4 (.seq (.ops [⟨.indexAddrS 1 (.t 42) (.t 44), (some 46), none, false⟩,
 ⟨.load none (.t 46), (some 47), none, false⟩,
 ⟨.mov (.t 47), (some 8), none, true⟩])
 (.seq (.ops [⟨.load (some 5) (.t 1), (some 48), none, false⟩,
 ⟨.alloc [(.int .i64 0), (.int .i64 0), (.str []), (.int .i64 0), .nilsl], (some 9), none, false⟩,
 ⟨.store 5 (.t 9) (.t 48), none, none, false⟩])
 (.seq (.ops [⟨.mov (.t 8), (some 49), none, true⟩,
 ⟨.fieldAddr 3 (.t 9), (some 50), none, true⟩,
 ⟨.store 1 (.t 50) (.t 49), none, none, false⟩])
 (.ops [⟨.mov (.t 3), (some 51), none, true⟩,
 ⟨.load (some 5) (.t 9), (some 52), none, false⟩,
 ⟨.buildSlice 5 [(.int .i64 0), (.int .i64 0), (.str []), (.int .i64 0), .nilsl] 1 [(0, (.t 52))] false, (some 53), none, true⟩,
 ⟨.append 5 64 false (.t 51) (.t 53), (some 54), none, false⟩,
 ⟨.mov (.t 54), (some 3), none, true⟩])))))
 (.ops [⟨.bin .add (.t 44) (.c (.int .i64 1)), (some 55), none, true⟩,
 ⟨.mov (.t 55), (some 44), none, true⟩])))))))
 (.seq (.ops [⟨.bin .eql (.t 13) (.c (.int .i64 21)), (some 57), none, true⟩,
 ⟨.mov (.t 57), (some 56), none, true⟩])
 (.cond (.t 56)
 (.seq (.ops [⟨.qcall (.f 39) [(.c (.str [48, 46, 48]))], (some 58), none, false⟩,
 ⟨.alloc [(.int .i64 0), (.int .i64 0), (.str []), (.int .i64 0), .nilsl], (some 10), none, false⟩,
 ⟨.store 5 (.t 10) (.t 58), none, none, false⟩])
 (.seq (.seq (.ops [⟨.fieldAddr 3 (.t 1), (some 59), none, true⟩,
 ⟨.load none (.t 59), (some 60), none, false⟩,
 ⟨.bin .eql (.t 60) (.c (.int .i64 0)), (some 61), none, true⟩])
 (.cond (.t 61)
 (.ops [⟨.qcall (.f 39) [(.c (.str [49, 46, 48]))], (some 62), none, false⟩,
 ⟨.store 5 (.t 10) (.t 62), none, none, false⟩])
 (.skip)))
 (.seq (.ops [⟨.fieldAddr 1 (.t 1), (some 63), none, true⟩,
 ⟨.load none (.t 63), (some 64), none, false⟩,
 ⟨.fieldAddr 1 (.t 10), (some 65), none, true⟩,
 ⟨.store 1 (.t 65) (.t 64), none, none, false⟩])
 (.ops [⟨.mov (.t 3), (some 66), none, true⟩,
 ⟨.load (some 5) (.t 10), (some 67), none, false⟩,
 ⟨.buildSlice 5 [(.int .i64 0), (.int .i64 0), (.str []), (.int .i64 0), .nilsl] 1 [(0, (.t 67))] false, (some 68), none, true⟩,
 ⟨.append 5 64 false (.t 66) (.t 68), (some 69), none, false⟩,
 ⟨.mov (.t 69), (some 3), none, true⟩]))))
 (.seq (.ops [⟨.bin .eql (.t 13) (.c (.int .i64 22)), (some 71), none, true⟩,
 ⟨.mov (.t 71), (some 70), none, true⟩])
 (.cond (.t 70)
 (.seq (.ops [⟨.load (some 5) (.t 1), (some 72), none, false⟩,
 ⟨.alloc [(.int .i64 0), (.int .i64 0), (.str []), (.int .i64 0), .nilsl], (some 11), none, false⟩,
 ⟨.store 5 (.t 11) (.t 72), none, none, false⟩])
 (.seq (.ops [⟨.fieldAddr 3 (.t 1), (some 73), none, true⟩,
 ⟨.load none (.t 73), (some 74), none, false⟩,
 ⟨.bin .and (.t 74) (.c (.int .i64 1)), (some 75), none, true⟩,
 ⟨.bin .sub (.c (.int .i64 1)) (.t 75), (some 76), none, true⟩,
 ⟨.fieldAddr 3 (.t 11), (some 77), none, true⟩,
 ⟨.store 1 (.t 77) (.t 76), none, none, false⟩])
 (.ops [⟨.mov (.t 3), (some 78), none, true⟩,
 ⟨.load (some 5) (.t 11), (some 79), none, false⟩,
 ⟨.buildSlice 5 [(.int .i64 0), (.int .i64 0), (.str []), (.int .i64 0), .nilsl] 1 [(0, (.t 79))] false, (some 80), none, true⟩,
 ⟨.append 5 64 false (.t 78) (.t 80), (some 81), none, false⟩,
 ⟨.mov (.t 81), (some 3), none, true⟩])))
 (.seq (.seq (.ops [⟨.bin .eql (.t 13) (.c (.int .i64 8)), (some 83), none, true⟩,
 ⟨.mov (.t 83), (some 82), none, true⟩])
 (.cond (.t 82)
 (.skip)
 (.ops [⟨.bin .eql (.t 13) (.c (.int .i64 13)), (some 84), none, true⟩,
 ⟨.mov (.t 84), (some 82), none, true⟩])))
 (.cond (.t 82)
 (.ops [⟨.mov (.t 3), (some 85), none, true⟩,
 ⟨.build [(.int .i64 0), (.int .i64 0), (.str []), (.int .i64 0), .nilsl] [(0, 1, (.c (.int .i64 14)))], (some 86), none, true⟩,
 ⟨.buildSlice 5 [(.int .i64 0), (.int .i64 0), (.str []), (.int .i64 0), .nilsl] 1 [(0, (.t 86))] false, (some 87), none, true⟩,
 ⟨.append 5 64 false (.t 85) (.t 87), (some 88), none, false⟩,
 ⟨.mov (.t 88), (some 3), none, true⟩])
 (.skip)))))))))))))))
 (.seq (.ops [⟨.mov (.t 3), (some 89), none, true⟩,
 ⟨.mov (.t 89), (some 2), none, true⟩])
 (.ret))))
theorem st19m : stmOf Tryz.prog 19 p19m = some (s19m, [.tmp 2], 90) := by kernel_rfl

def p8m : Plan := ⟨⟨[], [], [], [], [], []⟩, [], [], false⟩
/-- cupel/cupellaw15.awake (0 parameters, 0 captured) -/
def s8m : Stm :=
 .seq (.ops [⟨.mov (.c (.bool false)), (some 0), none, true⟩])
 (.seq (.ops [⟨.build [(.int .i64 0), (.int .i64 0), (.str []), (.int .i64 0), .nilsl] [(0, 1, (.c (.int .i64 26))), (2, 1, (.c (.str [43])))], (some 2), none, true⟩,
 ⟨.qcall (.f 19) [(.t 2)], (some 3), none, false⟩,
 ⟨.mov (.t 3), (some 1), none, true⟩])
 (.seq (.ops [⟨.mov (.t 1), (some 4), none, true⟩,
 ⟨.len .sl (.t 4), (some 5), none, false⟩,
 ⟨.bin .eql (.t 5) (.c (.int .i64 1)), (some 6), none, true⟩,
 ⟨.mov (.t 6), (some 7), none, true⟩,
 ⟨.mov (.t 1), (some 8), (some (7, true)), true⟩,
 ⟨.indexAddrS 5 (.t 8) (.c (.int .i64 0)), (some 9), (some (7, true)), false⟩,
 ⟨.fieldAddr 2 (.t 9), (some 10), (some (7, true)), true⟩,
 ⟨.load none (.t 10), (some 11), (some (7, true)), false⟩,
 ⟨.bin .eql (.t 11) (.c (.str [45])), (some 12), (some (7, true)), true⟩,
 ⟨.pick (.t 7) (.t 12) (.c (.bool false)), (some 13), none, true⟩,
 ⟨.mov (.t 13), (some 14), none, true⟩,
 ⟨.build [(.int .i64 0), (.int .i64 0), (.str []), (.int .i64 0), .nilsl] [(0, 1, (.c (.int .i64 23))), (2, 1, (.c (.str [43])))], (some 15), (some (14, true)), true⟩,
 ⟨.qcall (.f 19) [(.t 15)], (some 16), (some (14, true)), false⟩,
 ⟨.len .sl (.t 16), (some 17), (some (14, true)), false⟩,
 ⟨.bin .eql (.t 17) (.c (.int .i64 0)), (some 18), (some (14, true)), true⟩,
 ⟨.pick (.t 14) (.t 18) (.c (.bool false)), (some 19), none, true⟩,
 ⟨.mov (.t 19), (some 0), none, true⟩])
 (.ret)))
theorem st8m : stmOf Tryz.prog 8 p8m = some (s8m, [.tmp 0], 20) := by kernel_rfl

def swapsF (s : List UInt8) : List (List UInt8) :=
  bif s == [43] then [[45]] else bif s == [45] then [[43]] else bif s == [42] then [[47]] else bif s == [47] || s == [37] then [[42]] else
  bif s == [60] then [[60, 61], [62, 61]] else bif s == [60, 61] then [[60], [62]] else bif s == [62] then [[62, 61], [60, 61]] else bif s == [62, 61] then [[62], [60]] else
  bif s == [61, 61] then [[33, 61]] else bif s == [33, 61] then [[61, 61]] else bif s == [38, 38] then [[124, 124]] else bif s == [124, 124] then [[38, 38]] else []
theorem swaps_c (s : List UInt8) : PCall Tryz.prog 37 [.str s] (.sl (encS (swapsF s))) := by
  refine PCall.run (Tab.zero_ok _) st37m (by simp) fun E => ?_
  unfold swapsF
  cases c1m : (s == [43])
  case true => simp (config := {maxSteps := 1000000}) only [s37m, c1m, encS, zzK, seval]
  cases c2m : (s == [45])
  case true => simp (config := {maxSteps := 1000000}) only [s37m, c1m, c2m, encS, zzK, seval]
  cases c3m : (s == [42])
  case true => simp (config := {maxSteps := 1000000}) only [s37m, c1m, c2m, c3m, encS, zzK, seval]
  cases c4m : (s == [47])
  case true => simp (config := {maxSteps := 1000000}) only [s37m, c1m, c2m, c3m, c4m, encS, zzK, seval]
  cases c5m : (s == [37])
  case true => simp (config := {maxSteps := 1000000}) only [s37m, c1m, c2m, c3m, c4m, c5m, encS, zzK, seval]
  cases c6m : (s == [60])
  case true => simp (config := {maxSteps := 1000000}) only [s37m, c1m, c2m, c3m, c4m, c5m, c6m, encS, zzK, seval]
  cases c7m : (s == [60, 61])
  case true => simp (config := {maxSteps := 1000000}) only [s37m, c1m, c2m, c3m, c4m, c5m, c6m, c7m, encS, zzK, seval]
  cases c8m : (s == [62])
  case true => simp (config := {maxSteps := 1000000}) only [s37m, c1m, c2m, c3m, c4m, c5m, c6m, c7m, c8m, encS, zzK, seval]
  cases c9m : (s == [62, 61])
  case true => simp (config := {maxSteps := 1000000}) only [s37m, c1m, c2m, c3m, c4m, c5m, c6m, c7m, c8m, c9m, encS, zzK, seval]
  cases c10m : (s == [61, 61])
  case true => simp (config := {maxSteps := 1000000}) only [s37m, c1m, c2m, c3m, c4m, c5m, c6m, c7m, c8m, c9m, c10m, encS, zzK, seval]
  cases c11m : (s == [33, 61])
  case true => simp (config := {maxSteps := 1000000}) only [s37m, c1m, c2m, c3m, c4m, c5m, c6m, c7m, c8m, c9m, c10m, c11m, encS, zzK, seval]
  cases c12m : (s == [38, 38])
  case true => simp (config := {maxSteps := 1000000}) only [s37m, c1m, c2m, c3m, c4m, c5m, c6m, c7m, c8m, c9m, c10m, c11m, c12m, encS, zzK, seval]
  cases c13m : (s == [124, 124])
  all_goals simp (config := {maxSteps := 1000000}) only [s37m, c1m, c2m, c3m, c4m, c5m, c6m, c7m, c8m, c9m, c10m, c11m, c12m, c13m, encS, zzK, seval]
def q37m : List D → Option D
  | [.str s] => some (.sl (encS (swapsF s)))
  | _ => none
theorem q37m_ok (args : List D) (d : D) (h : q37m args = some d) : PCall Tryz.prog 37 args d := by
  unfold q37m at h
  split at h
  · cases h; exact swaps_c _
  · cases h
def intsF (n : Int) : List Int := if n = 9223372036854775807 then [n - 1, 0] else if 1 < n then [IntKind.i64.wrap (n + 1), 0] else [IntKind.i64.wrap (n + 1)]
theorem intsM_c (n : Int) : PCall Tryz.prog 38 [.int .i64 n] (.sl (encI (intsF n))) := by
  refine PCall.run (Tab.zero_ok _) st38m (by simp) fun E => ?_
  unfold intsF
  by_cases c : n = 9223372036854775807
  · subst c
    simp (config := {maxSteps := 1000000}) only [s38m, encI, zzK, seval]
    exact .inl (by decide)
  · have g : (n == 9223372036854775807) = false := by simpa using c
    by_cases c2m : 1 < n
    · have g2 : (n > 1) = True := eq_true c2m
      simp (config := {maxSteps := 1000000}) only [s38m, c, g, g2, c2m, encI, zzK, seval]
    · have g2 : (n > 1) = False := eq_false c2m
      simp (config := {maxSteps := 1000000}) only [s38m, c, g, g2, c2m, encI, zzK, seval]
def q38m : List D → Option D
  | [.int .i64 n] => some (.sl (encI (intsF n)))
  | _ => none
theorem q38m_ok (args : List D) (d : D) (h : q38m args = some d) : PCall Tryz.prog 38 args d := by
  unfold q38m at h
  split at h
  · cases h; exact intsM_c _
  · cases h
theorem swapsF_shape (s : List UInt8) : swapsF s = [] ∨ (∃ a, swapsF s = [a]) ∨ ∃ a b, swapsF s = [a, b] := by
  unfold swapsF
  repeat' (first | exact .inl rfl | exact .inr (.inl ⟨_, rfl⟩) | exact .inr (.inr ⟨_, _, rfl⟩) | (rw [Bool.cond_eq_ite]; split))
theorem intsF_shape (n : Int) : (∃ a, intsF n = [a]) ∨ ∃ a b, intsF n = [a, b] := by
  unfold intsF
  repeat' (first | exact .inl ⟨_, rfl⟩ | exact .inr ⟨_, _, rfl⟩ | split)
/-- Digits with a point, as a node of a type. -/
def floatT (t : Int) (x : List UInt8) : Nd := .mk 21 t (digF x) (bitsF (digF x)) []
/-- What a node turns into. -/
def turnsF : Nd → List Nd
  | .mk k t s n l => bif k == 26 then (swapsF s).map fun x => .mk k t x n l
    else bif k == 25 then l
    else bif k == 20 then (intsF n).map fun v => .mk k t s v l
    else bif k == 21 then [floatT t (if n = 0 then [49, 46, 48] else [48, 46, 48])]
    else bif k == 22 then [.mk k t s (1 - n % 2) l]
    else bif k == 8 || k == 13 then [.mk 14 0 [] 0 []] else []
theorem dot00 : Dotted [48, 46, 48] [48] [48] := ⟨rfl, by decide, by decide, by decide, by decide, by decide⟩
theorem dot10 : Dotted [49, 46, 48] [49] [48] := ⟨rfl, by decide, by decide, by decide, by decide, by decide⟩
theorem q39m_00 : q39p [.str [48, 46, 48]] = some (.agg [.int .i64 21, .int .i64 2, .str (digF [48, 46, 48]), .int .i64 (bitsF (digF [48, 46, 48])), .sl []]) := by
  unfold q39p; exact if_pos ⟨_, _, dot00⟩
theorem q39m_10 : q39p [.str [49, 46, 48]] = some (.agg [.int .i64 21, .int .i64 2, .str (digF [49, 46, 48]), .int .i64 (bitsF (digF [49, 46, 48])), .sl []]) := by
  unfold q39p; exact if_pos ⟨_, _, dot10⟩
def tm37 : Tab := Tab.zero.addQ 37 q37m
theorem tm37_q (g : FuncId) (args : List D) : tm37.q g args = if g = 37 then q37m args else Tab.zero.q g args := rfl
theorem tm37_a : tm37.a = Tab.zero.a := rfl
theorem tm37_c : tm37.c = Tab.zero.c := rfl
theorem tm37_ok : tm37.ok Tryz.prog := Tab.addQ_ok (Tab.zero_ok _) q37m_ok
theorem tm37_e : type_of% (And.intro @tm37_q (And.intro @tm37_a @tm37_c)) := (And.intro @tm37_q (And.intro @tm37_a @tm37_c))

def tm38 : Tab := tm37.addQ 38 q38m
theorem tm38_q (g : FuncId) (args : List D) : tm38.q g args = if g = 38 then q38m args else tm37.q g args := rfl
theorem tm38_a : tm38.a = tm37.a := rfl
theorem tm38_c : tm38.c = tm37.c := rfl
theorem tm38_ok : tm38.ok Tryz.prog := Tab.addQ_ok tm37_ok q38m_ok
theorem tm38_e : type_of% (And.intro (And.intro @tm38_q (And.intro @tm38_a @tm38_c)) @tm37_e) := (And.intro (And.intro @tm38_q (And.intro @tm38_a @tm38_c)) @tm37_e)

def tm39 : Tab := tm38.addQ 39 q39p
theorem tm39_q (g : FuncId) (args : List D) : tm39.q g args = if g = 39 then q39p args else tm38.q g args := rfl
theorem tm39_a : tm39.a = tm38.a := rfl
theorem tm39_c : tm39.c = tm38.c := rfl
theorem tm39_ok : tm39.ok Tryz.prog := Tab.addQ_ok tm38_ok q39p_ok
theorem tm39_e : type_of% (And.intro (And.intro @tm39_q (And.intro @tm39_a @tm39_c)) @tm38_e) := (And.intro (And.intro @tm39_q (And.intro @tm39_a @tm39_c)) @tm38_e)

theorem bit_and (m : Int) : IntKind.i64.wrap (1 - IntKind.i64.wrap ((BitVec.ofInt IntKind.i64.bits m &&& BitVec.ofInt IntKind.i64.bits 1).toNat : Int)) = 1 - m % 2 := by
  have e1 : (BitVec.ofInt IntKind.i64.bits 1).toNat = 1 := by decide
  have e2 : (BitVec.ofInt IntKind.i64.bits m).toNat = (m % 18446744073709551616).toNat := by rw [BitVec.toNat_ofInt]; rfl
  have e : ((BitVec.ofInt IntKind.i64.bits m &&& BitVec.ofInt IntKind.i64.bits 1).toNat : Int) = m % 2 := by
    rw [BitVec.toNat_and, e1, e2, Nat.and_one_is_mod]
    omega
  have w1 : IntKind.i64.wrap (m % 2) = m % 2 := wrap_i64 (by omega) (by omega)
  rw [e, w1]
  exact wrap_i64 (by omega) (by omega)
set_option maxHeartbeats 1000000 in
theorem turns_c (n : Nd) (hn : n.cnt ≤ 1000000000) : PCall Tryz.prog 19 [.agg n.enc] (.sl (Nd.encs (turnsF n))) := by
  refine PCall.run tm39_ok st19m (by simp) fun E => ?_
  obtain ⟨k, t, s, m, l⟩ := n
  rw [cnt_mk] at hn
  have hln := cnts_len l
  rw [enc_mk]
  unfold turnsF
  by_cases e1 : k = 26
  · subst e1
    have hq : q37m [.str s] = some (.sl (encS (swapsF s))) := rfl
    simp (config := {maxSteps := 1000000}) only [s19m, hq, tm39_e, zzK, seval]
    intro i1
    have w1 : IntKind.i64.wrap 1 = 1 := by decide
    have w2 : IntKind.i64.wrap 2 = 2 := by decide
    have d1 : Int.toNat 1 = 1 := rfl
    rcases swapsF_shape s with e | ⟨a, e⟩ | ⟨a, b, e⟩
    · rw [e]
      simp (config := {maxSteps := 1000000}) only [encS, List.map_nil, tm39_e, zzK, seval]
      refine run_rounds 1 ?_
      simp (config := {maxSteps := 1000000}) only [rounds, encs_nil, tm39_e, zzK, seval]
    · rw [e]
      simp (config := {maxSteps := 1000000}) only [encS, List.map_nil, List.map_cons, tm39_e, zzK, seval]
      refine run_rounds 2 ?_
      simp (config := {maxSteps := 1000000}) only [rounds, w1, w2, d1, askE, List.getElem?_cons_zero, List.getElem?_cons_succ, Option.some.injEq, forall_eq', tm39_e, zzK, seval]
      intros
      simp only [encs_cons, encs_nil, enc_mk]
    · rw [e]
      simp (config := {maxSteps := 1000000}) only [encS, List.map_nil, List.map_cons, tm39_e, zzK, seval]
      refine run_rounds 3 ?_
      simp (config := {maxSteps := 1000000}) only [rounds, w1, w2, d1, askE, List.getElem?_cons_zero, List.getElem?_cons_succ, Option.some.injEq, forall_eq', tm39_e, zzK, seval]
      intro i2 a2_1 b2_1 i3 a3_2 b3_2 a3_1 b3_1
      simp (config := {maxSteps := 1000000}) only [rounds, a2_1, b2_1, a3_2, b3_2, a3_1, b3_1, w1, w2, d1, askE, List.getElem?_cons_zero, List.getElem?_cons_succ, Option.some.injEq, forall_eq', tm39_e, zzK, seval]
      intro i4 a4_3 b4_3 a4_2 b4_2 a4_1 b4_1
      simp (config := {maxSteps := 1000000}) only [rounds, a2_1, b2_1, a3_2, b3_2, a3_1, b3_1, a4_3, b4_3, a4_2, b4_2, a4_1, b4_1, w1, w2, d1, askE, List.getElem?_cons_zero, List.getElem?_cons_succ, Option.some.injEq, forall_eq', tm39_e, zzK, seval]
      intros
      simp only [encs_cons, encs_nil, enc_mk]
  · have g1 : (k == 26) = false := by simpa using e1
    by_cases e2 : k = 25
    · subst e2
      by_cases hl : l = []
      · subst hl
        simp (config := {maxSteps := 1000000}) only [s19m, g1, encs_nil, tm39_e, zzK, seval]
      · have hne := encs_ne hl
        have tk : (Nd.encs l).take l.length = Nd.encs l := List.take_of_length_le (by rw [len_encs]; omega)
        simp (config := {maxSteps := 1000000}) only [s19m, g1, hne, len_encs, tk, tm39_e, zzK, seval]
        intros
        refine ⟨fun y hy => ?_, by omega⟩
        rw [encs_map] at hy
        obtain ⟨x, _, rfl⟩ := List.mem_map.1 hy
        exact ⟨len_enc x, enc_ok x⟩
    · have g2 : (k == 25) = false := by simpa using e2
      by_cases e3 : k = 20
      · subst e3
        have w1 : IntKind.i64.wrap 1 = 1 := by decide
        have w2 : IntKind.i64.wrap 2 = 2 := by decide
        have d1 : Int.toNat 1 = 1 := rfl
        have hq : q38m [.int .i64 m] = some (.sl (encI (intsF m))) := rfl
        simp (config := {maxSteps := 1000000}) only [s19m, g1, g2, hq, tm39_e, zzK, seval]
        intro i1
        rcases intsF_shape m with ⟨a, e⟩ | ⟨a, b, e⟩
        · rw [e]
          simp (config := {maxSteps := 1000000}) only [encI, List.map_nil, List.map_cons, tm39_e, zzK, seval]
          refine run_rounds 2 ?_
          simp (config := {maxSteps := 1000000}) only [rounds, w1, w2, d1, askE, List.getElem?_cons_zero, List.getElem?_cons_succ, Option.some.injEq, forall_eq', tm39_e, zzK, seval]
          intros
          simp only [encs_cons, encs_nil, enc_mk]
        · rw [e]
          simp (config := {maxSteps := 1000000}) only [encI, List.map_nil, List.map_cons, tm39_e, zzK, seval]
          refine run_rounds 3 ?_
          simp (config := {maxSteps := 1000000}) only [rounds, w1, w2, d1, askE, List.getElem?_cons_zero, List.getElem?_cons_succ, Option.some.injEq, forall_eq', tm39_e, zzK, seval]
          intro i2 a2_1 b2_1 i3 a3_2 b3_2 a3_1 b3_1
          simp (config := {maxSteps := 1000000}) only [rounds, a2_1, b2_1, a3_2, b3_2, a3_1, b3_1, w1, w2, d1, askE, List.getElem?_cons_zero, List.getElem?_cons_succ, Option.some.injEq, forall_eq', tm39_e, zzK, seval]
          intro i4 a4_3 b4_3 a4_2 b4_2 a4_1 b4_1
          simp (config := {maxSteps := 1000000}) only [rounds, a2_1, b2_1, a3_2, b3_2, a3_1, b3_1, a4_3, b4_3, a4_2, b4_2, a4_1, b4_1, w1, w2, d1, askE, List.getElem?_cons_zero, List.getElem?_cons_succ, Option.some.injEq, forall_eq', tm39_e, zzK, seval]
          intros
          simp only [encs_cons, encs_nil, enc_mk]
      · have g3 : (k == 20) = false := by simpa using e3
        by_cases e4 : k = 21
        · subst e4
          by_cases c : m = 0
          · subst c
            simp (config := {maxSteps := 1000000}) only [s19m, g1, g2, g3, q39m_00, q39m_10, tm39_e, zzK, seval]
            intro i1  i2 a2_1 b2_1
            simp (config := {maxSteps := 1000000}) only [s19m, g1, g2, g3, q39m_00, q39m_10, a2_1, b2_1, tm39_e, zzK, seval]
            intros
            simp only [encs_cons, encs_nil, enc_mk, floatT]
          · have gc : (m == 0) = false := by simpa using c
            simp (config := {maxSteps := 1000000}) only [s19m, g1, g2, g3, gc, c, q39m_00, q39m_10, tm39_e, zzK, seval]
            intro i1  i2 a2_1 b2_1
            simp (config := {maxSteps := 1000000}) only [s19m, g1, g2, g3, gc, q39m_00, q39m_10, a2_1, b2_1, tm39_e, zzK, seval]
            intros
            simp only [encs_cons, encs_nil, enc_mk, floatT]
        · have g4 : (k == 21) = false := by simpa using e4
          by_cases e5 : k = 22
          · subst e5
            simp (config := {maxSteps := 1000000}) only [s19m, g1, g2, g3, g4, tm39_e, zzK, seval]
            intro i1  i2 a2_1 b2_1
            simp (config := {maxSteps := 1000000}) only [s19m, g1, g2, g3, g4, a2_1, b2_1, tm39_e, zzK, seval]
            intros
            simp only [encs_cons, encs_nil, enc_mk, bit_and]
          · have g5 : (k == 22) = false := by simpa using e5
            by_cases e6 : k = 8
            · subst e6
              simp (config := {maxSteps := 1000000}) only [s19m, g1, g2, g3, g4, g5, tm39_e, zzK, seval]
              intros
              simp only [encs_cons, encs_nil, enc_mk]
            · have g6 : (k == 8) = false := by simpa using e6
              by_cases e7 : k = 13
              · subst e7
                simp (config := {maxSteps := 1000000}) only [s19m, g1, g2, g3, g4, g5, g6, tm39_e, zzK, seval]
                intros
                simp only [encs_cons, encs_nil, enc_mk]
              · have g7 : (k == 13) = false := by simpa using e7
                simp (config := {maxSteps := 1000000}) only [s19m, g1, g2, g3, g4, g5, g6, g7, tm39_e, zzK, seval]
                intros
                simp only [encs_nil]
def q19m : List D → Option D
  | [.agg ds] => match decN ds with
    | some n => if n.cnt ≤ 1000000000 then some (.sl (Nd.encs (turnsF n))) else none
    | none => none
  | _ => none
theorem q19m_ok (args : List D) (d : D) (h : q19m args = some d) : PCall Tryz.prog 19 args d := by
  unfold q19m at h
  split at h
  · split at h
    · rename_i n hn
      split at h
      · rename_i c
        cases h
        rw [decN_some hn]
        exact turns_c n c
      · cases h
    · cases h
  · cases h
theorem q19m_eq (n : Nd) (h : n.cnt ≤ 1000000000) : q19m [.agg n.enc] = some (.sl (Nd.encs (turnsF n))) := by
  simp only [q19m, decN_enc]; rw [if_pos h]
theorem turnsF_plus : turnsF (.mk 26 0 [43] 0 []) = [.mk 26 0 [45] 0 []] := rfl
theorem turnsF_var : turnsF (.mk 23 0 [43] 0 []) = [] := rfl
def tm19 : Tab := Tab.zero.addQ 19 q19m
theorem tm19_q (g : FuncId) (args : List D) : tm19.q g args = if g = 19 then q19m args else Tab.zero.q g args := rfl
theorem tm19_a : tm19.a = Tab.zero.a := rfl
theorem tm19_c : tm19.c = Tab.zero.c := rfl
theorem tm19_ok : tm19.ok Tryz.prog := Tab.addQ_ok (Tab.zero_ok _) q19m_ok
theorem tm19_e : type_of% (And.intro @tm19_q (And.intro @tm19_a @tm19_c)) := (And.intro @tm19_q (And.intro @tm19_a @tm19_c))

theorem awakeM_c : PCall Tryz.prog 8 [] (.bool true) := by
  refine PCall.run tm19_ok st8m (by simp) fun E => ?_
  have h1 := q19m_eq (.mk 26 0 [43] 0 []) (by rw [cnt_mk, cnts_nil]; decide)
  have h2 := q19m_eq (.mk 23 0 [43] 0 []) (by rw [cnt_mk, cnts_nil]; decide)
  rw [turnsF_plus] at h1
  rw [turnsF_var] at h2
  simp only [enc_mk, encs_nil, encs_cons] at h1 h2
  simp (config := {maxSteps := 1000000}) only [s8m, h1, h2, askE, List.getElem?_cons_zero, Option.some.injEq, forall_eq', tm39_e, tm19_e, zzK, seval]
end
end Go.Proofs.YtpagdhbmbnoddaaGreatDoor.Zz
/- Contracts: trees that are gone over. -/
namespace Go.Proofs.YtpagdhbmbnoddaaGreatDoor.Zz
noncomputable section
set_option linter.unusedVariables false
set_option linter.unusedSimpArgs false
set_option maxRecDepth 20000
def p46r : Plan := ⟨⟨[], [], [], [], [], []⟩, [], [], false⟩
/-- cupel/ast.All (1 parameters, 0 captured) -/
def s46r : Stm :=
 .seq (.ops [⟨.box (.t 0), (some 1), none, false⟩,
 ⟨.mov (.c .nilfunc), (some 2), none, true⟩])
 (.seq (.ops [⟨.mkFunc (.func 42) [] [(.t 1)], (some 3), none, true⟩,
 ⟨.mov (.t 3), (some 2), none, true⟩])
 (.ret))
theorem st46r : stmOf Tryz.prog 22 p46r = some (s46r, [.tmp 2], 4) := by kernel_rfl

def p76r : Plan := ⟨⟨[], [(1, 2)], [], [], [], []⟩, [], [], false⟩
/-- cupel/ast.All$1 (1 parameters, 1 captured) -/
def s76r : Stm :=
 .seq (.ops [⟨.alloc [(.int .i64 0)], (some 3), none, false⟩,
 ⟨.store 1 (.t 3) (.c (.int .i64 0)), none, none, false⟩])
 (.ops [⟨.load (some 5) (.t 1), (some 4), none, false⟩,
 ⟨.mov (.t 0), (some 5), none, true⟩,
 ⟨.call (.f 43) [(.t 4), (.t 3), (.t 5)], (some 6), none, false⟩])
theorem st76r : stmOf Tryz.prog 42 p76r = some (s76r, [], 7) := by kernel_rfl

def p77r : Plan := ⟨⟨[], [(7, 3), (1, 5)], [], [], [], []⟩, [(1, [0, 1, 2, 3, 4, 5, 6])], [], false⟩
/-- cupel/ast.walk (3 parameters, 0 captured) -/
def s77r : Stm :=
 .seq (.ops [⟨.box (.t 0), (some 3), none, false⟩,
 ⟨.mov (.c (.bool false)), (some 6), none, true⟩])
 (.seq (.seq (.opsD [⟨.mov (.t 2), (some 9), none, true⟩,
 ⟨.mov (.t 1), (some 10), none, true⟩,
 ⟨.nilCheck (.t 10), (some 11), none, true⟩,
 ⟨.load none (.t 11), (some 12), none, false⟩,
 ⟨.load (some 5) (.t 3), (some 13), none, false⟩,
 ⟨.call (.t 9) [(.t 12), (.t 13)], (some 14), none, false⟩,
 ⟨.un .not (.t 14), (some 15), none, true⟩])
 (.cond (.t 15)
 (.seq (.ops [⟨.mov (.c (.bool false)), (some 6), none, true⟩])
 (.ret))
 (.skip)))
 (.seq (.seq (.ops [⟨.fieldAddr 4 (.t 3), (some 16), none, true⟩,
 ⟨.load none (.t 16), (some 17), none, false⟩,
 ⟨.len .sl (.t 17), (some 18), none, false⟩,
 ⟨.mov (.c (.int .i64 0)), (some 19), none, true⟩])
 (.block 0 (.loop (.seq (.ops [⟨.bin .lss (.t 19) (.t 18), (some 20), none, true⟩])
 (.seq (.cond (.t 20)
 (.skip)
 (.exit 0))
 (.seq (.block 1 (.seq (.ops [⟨.indexAddrS 5 (.t 17) (.t 19), (some 21), none, false⟩,
 ⟨.load (some 5) (.t 21), (some 22), none, false⟩,
 ⟨.alloc [(.int .i64 0), (.int .i64 0), (.str []), (.int .i64 0), .nilsl], (some 8), none, false⟩,
 ⟨.store 5 (.t 8) (.t 22), none, none, false⟩])
 (.seq (.ops [⟨.mov (.t 1), (some 23), none, true⟩,
 ⟨.nilCheck (.t 23), (some 24), none, true⟩,
 ⟨.load none (.t 24), (some 25), none, false⟩,
 ⟨.bin .add (.t 25) (.c (.int .i64 1)), (some 26), none, true⟩,
 ⟨.nilCheck (.t 23), (some 27), none, true⟩,
 ⟨.store 1 (.t 27) (.t 26), none, none, false⟩])
 (.seq (.ops [⟨.load (some 5) (.t 8), (some 28), none, false⟩,
 ⟨.mov (.t 1), (some 29), none, true⟩,
 ⟨.mov (.t 2), (some 30), none, true⟩,
 ⟨.call (.f 43) [(.t 28), (.t 29), (.t 30)], (some 31), none, false⟩,
 ⟨.un .not (.t 31), (some 32), none, true⟩])
 (.cond (.t 32)
 (.seq (.ops [⟨.mov (.c (.bool false)), (some 6), none, true⟩])
 (.ret))
 (.skip))))))
 (.ops [⟨.bin .add (.t 19) (.c (.int .i64 1)), (some 33), none, true⟩,
 ⟨.mov (.t 33), (some 19), none, true⟩])))))))
 (.seq (.ops [⟨.mov (.c (.bool true)), (some 6), none, true⟩])
 (.ret))))
theorem st77r : stmOf Tryz.prog 43 p77r = some (s77r, [.tmp 6], 34) := by kernel_rfl

/-- What rounds do with nodes, one behind the other; the last one's place. -/
def YI (Y : List D → AHeap → (D → AHeap → Prop) → Prop) : List Nd → Int → AHeap → (Bool → AHeap → Int → Prop) → Prop
  | [], a, h, K => K true h (a - 1)
  | x :: l, a, h, K => Y [.int .i64 a, .agg x.enc] h (fun d h' => ∃ b, d = .bool b ∧ (b = true → YI Y l (a + 1) h' K) ∧ (b = false → K false h' a))
theorem YI_mono {Y Y' : List D → AHeap → (D → AHeap → Prop) → Prop} (hY : ∀ args h (K K' : D → AHeap → Prop), (∀ d h, K d h → K' d h) → Y args h K → Y' args h K') : ∀ (l : List Nd) (a : Int) (h : AHeap) (K K' : Bool → AHeap → Int → Prop), (∀ b h a, K b h a → K' b h a) → YI Y l a h K → YI Y' l a h K'
  | [], a, h, K, K', hk, x => hk _ _ _ x
  | x :: l, a, h, K, K', hk, y => hY _ _ _ _ (fun d h' ⟨b, e1, e2, e3⟩ => ⟨b, e1, fun e => YI_mono hY l _ _ K K' hk (e2 e), fun e => hk _ _ _ (e3 e)⟩) y
theorem YI_monoK {Y : List D → AHeap → (D → AHeap → Prop) → Prop} (hY : YMono Y) (l : List Nd) (a : Int) (h : AHeap) (K K' : Bool → AHeap → Int → Prop) (hk : ∀ b h a, K b h a → K' b h a) (x : YI Y l a h K) : YI Y l a h K' :=
  YI_mono (Y := Y) (Y' := Y) (fun args h K K' hk x => hY args h K K' hk x) l a h K K' hk x
theorem YI_app {Y : List D → AHeap → (D → AHeap → Prop) → Prop} (hY : YMono Y) : ∀ (l r : List Nd) (a : Int) (h : AHeap) (K : Bool → AHeap → Int → Prop), YI Y (l ++ r) a h K → YI Y l a h (fun b h' a' => (b = true → YI Y r (a' + 1) h' K) ∧ (b = false → K false h' a'))
  | [], r, a, h, K, x => by
    show (true = true → YI Y r (a - 1 + 1) h K) ∧ (true = false → K false h (a - 1))
    rw [show a - 1 + 1 = a by omega]
    exact And.intro (fun _ => x) (fun e => Bool.noConfusion e)
  | y :: l, r, a, h, K, x => by
    refine hY _ _ _ _ (fun d h' k => ?_) x
    obtain ⟨b, e1, e2, e3⟩ := k
    refine ⟨b, e1, fun e => YI_app hY l r _ _ K (e2 e), fun e => ?_⟩
    exact And.intro (fun e' => Bool.noConfusion e') (fun _ => e3 e)
/-- The last one's place, told. -/
theorem YI_idx {Y : List D → AHeap → (D → AHeap → Prop) → Prop} (hY : YMono Y) : ∀ (l : List Nd) (a : Int) (h : AHeap) (K : Bool → AHeap → Int → Prop), YI Y l a h K → YI Y l a h (fun b h' a' => K b h' a' ∧ (b = true → a' = a + l.length - 1))
  | [], a, h, K, x => by
    show K true h (a - 1) ∧ (true = true → a - 1 = a + (([] : List Nd).length : Int) - 1)
    exact ⟨x, fun _ => by simp⟩
  | y :: l, a, h, K, x => by
    refine hY _ _ _ _ (fun d h' k => ?_) x
    obtain ⟨b, e1, e2, e3⟩ := k
    refine ⟨b, e1, fun e => YI_monoK hY l _ _ _ _ (fun b h a k => ⟨k.1, fun e => ?_⟩) (YI_idx hY l _ _ K (e2 e)), fun e => ⟨e3 e, fun e => by cases e⟩⟩
    rw [k.2 e]
    simp only [List.length_cons]
    omega
/-- Node by node. -/
theorem YI_ind {Y : List D → AHeap → (D → AHeap → Prop) → Prop} (hY : YMono Y) {K : Bool → AHeap → Int → Prop} (I : Nat → AHeap → Prop) (L : List Nd)
    (step : ∀ (i : Nat) (x : Nd) (hh : AHeap), L[i]? = some x → I i hh → Y [.int .i64 (i : Int), .agg x.enc] hh (fun d h' => ∃ b, d = .bool b ∧ (b = true → I (i + 1) h') ∧ (b = false → K false h' i)))
    (fin : ∀ hh, I L.length hh → K true hh ((L.length : Int) - 1)) : ∀ (l : List Nd) (i : Nat) (h : AHeap), L.drop i = l → i ≤ L.length → I i h → YI Y l (i : Int) h K
  | [], i, h, e, hi, hI => by
    have : i = L.length := by have := congrArg List.length e; simp at this; omega
    subst this
    exact fin h hI
  | x :: l, i, h, e, hi, hI => by
    have hx : L[i]? = some x := by
      have := congrArg (fun l : List Nd => l[0]?) e
      simpa [List.getElem?_drop] using this
    have hlt : i < L.length := (List.getElem?_eq_some_iff.1 hx).1
    have hd : L.drop (i + 1) = l := by
      rw [List.drop_eq_getElem_cons hlt] at e
      exact (List.cons.inj e).2
    refine hY _ _ _ _ (fun d h' k => ?_) (step i x h hx hI)
    obtain ⟨b, e1, e2, e3⟩ := k
    refine ⟨b, e1, fun e => ?_, e3⟩
    have := YI_ind hY I L step fin l (i + 1) h' hd (by omega) (e2 e)
    rw [show ((i + 1 : Nat) : Int) = (i : Int) + 1 by omega] at this
    exact this
/-- A walk through a tree. -/
def cW (l : Nat) (Y : List D → AHeap → (D → AHeap → Prop) → Prop) (f : Nat) (args : List D) (h : AHeap) (K : D → AHeap → Prop) : Prop :=
  ∃ (n : Nd) (a : Int) (id : Nat) (h0 : AHeap), args = [.agg (Nd.enc n), .ptr id 1 0, .func (.yield l) [] []] ∧ h = h0.set id (.cells [.int .i64 a]) ∧ h0.f id = none ∧ n.cnt < f ∧ 0 ≤ a ∧ a + n.cnt ≤ 1000000000 ∧
    YI Y (listF n) a h0 (fun b h' a' => h'.f id = none → K (.bool b) (h'.set id (.cells [.int .i64 a'])))
theorem cW_mono {l : Nat} {Y : List D → AHeap → (D → AHeap → Prop) → Prop} {f : Nat} (hY : YMono Y) (args : List D) (h : AHeap) (K K' : D → AHeap → Prop) (hk : ∀ d h, K d h → K' d h) (x : cW l Y f args h K) : cW l Y f args h K' := by
  obtain ⟨n, a, id, h0, e1, e2, e3, e4, e5, e6, y⟩ := x
  exact ⟨n, a, id, h0, e1, e2, e3, e4, e5, e6, YI_monoK hY _ _ _ _ _ (fun b h a k e => hk _ _ (k e)) y⟩
def tbW (l : Nat) (Y : List D → AHeap → (D → AHeap → Prop) → Prop) (hY : YMono Y) (f : Nat) : Tab := (Tab.zero.addY l Y hY).addW 43 (frameC (cW l Y f)) (frameC_mono (cW_mono hY))
theorem tbW_q (l : Nat) (Y) (hY : YMono Y) (f : Nat) (g : FuncId) (xs : List D) : (tbW l Y hY f).q g xs = none := rfl
theorem tbW_c (l : Nat) (Y) (hY : YMono Y) (f : Nat) (g : FuncId) (xs : List D) (h : AHeap) (K E : D → AHeap → Prop) : (tbW l Y hY f).c g xs h K E = if g = 43 then frameC (cW l Y f) xs h K else False := rfl
theorem tbW_y (l : Nat) (Y) (hY : YMono Y) (f : Nat) (xs : List D) (h : AHeap) (K : D → AHeap → Prop) : (tbW l Y hY f).y l xs h K = Y xs h K := if_pos rfl
theorem walk_step (κ : Kap) (w : World) (l : Nat) (Y : List D → AHeap → (D → AHeap → Prop) → Prop) (hY : YMono Y) (f : Nat) (hT : (tbW l Y hY f).okY Tryz.prog κ w) (args : List D) (h : AHeap) (K : D → AHeap → Prop) (x : cW l Y (f + 1) args h K) :
    ACallsAt Tryz.prog κ w 43 args h fun o h' => ∃ d, o = .ret d ∧ K d h' := by
  obtain ⟨n, a, id, h0, rfl, rfl, h0i, hn, ha, hb, y⟩ := x
  refine ACallsAt.of_U hT st77r (by simp) ?_
  have hTq := tbW_q l Y hY f
  have hTc := tbW_c l Y hY f
  have hTy := tbW_y l Y hY f
  generalize tbW l Y hY f = TT at hTq hTc hTy ⊢
  obtain ⟨k, t, s, m, kids⟩ := n
  rw [enc_mk]
  have hcn : ∀ x ∈ kids, x.cnt < f := fun x hx => by have := cnt_kid (k := k) (t := t) (s := s) (n := m) hx; omega
  rw [cnt_mk] at hb
  rw [listF_mk] at y
  have hln := cnts_len kids
  simp (config := {maxSteps := 1000000}) only [s77r, zzK, seval]
  intro i3 e3 e3' f3
  simp (config := {maxSteps := 1000000}) only [e3, e3', f3, h0i, hTq, zzK, seval]
  rw [i_yield]
  refine ⟨h0, [(i3, .cells [.int .i64 k, .int .i64 t, .str s, .int .i64 m, .sl (Nd.encs kids)]), (id, .cells [.int .i64 a])], rfl, ?_, ?_⟩
  · intro p hp
    simp only [List.mem_cons, List.not_mem_nil, or_false] at hp
    rcases hp with rfl | rfl
    · exact f3
    · exact h0i
  rw [hTy]
  simp (config := {maxSteps := 1000000}) only [zzK, seval]
  rw [← enc_mk]
  refine hY _ _ _ _ (fun d h1 kk => ?_) y
  obtain ⟨b, rfl, kt, kf⟩ := kk
  intro hL1 hL2
  simp only [AHeap.puts, List.foldr_cons, List.foldr_nil]
  cases b with
  | false =>
    have kf := kf rfl hL2
    simp (config := {maxSteps := 1000000}) only [e3, e3', retU_ret, Bool.not_false, zzK, seval]
    exact ⟨_, AHeap.sub_X (AHeap.subX_r (.inr (by simp [hL1, e3])) AHeap.subX_refl), kf⟩
  | true =>
    have kt := kt rfl
    simp (config := {maxSteps := 1000000}) only [e3, e3', Bool.not_true, enc_mk, zzK, seval]
    intro _
    refine run_loop (X := Nat × AHeap × Int) (fun z => [(1, .ptr id 1 0), (2, .func (.yield l) [] []), (17, .sl (Nd.encs kids)), (18, .int .i64 kids.length), (19, .int .i64 z.1)]) (fun z => (z.2.1.set id (.cells [.int .i64 z.2.2])).set i3 (.cells [.int .i64 k, .int .i64 t, .str s, .int .i64 m, .sl (Nd.encs kids)])) (fun z => kids.length - z.1)
      (fun z => z.1 ≤ kids.length ∧ z.2.1.f id = none ∧ z.2.1.f i3 = none ∧ 0 ≤ z.2.2 ∧ z.2.2 + 1 + Nd.cnts (kids.drop z.1) ≤ 1000000000 ∧ YI Y (listFs (kids.drop z.1)) (z.2.2 + 1) z.2.1 (fun b h' a' => h'.f id = none → K (.bool b) (h'.set id (.cells [.int .i64 a'])))) (0, h1, a) ⟨Nat.zero_le _, hL2, hL1, ha, by simp only [List.drop_zero]; omega, kt⟩ (by simp only [len_encs, zzK, seval]) (AHeap.sub_refl _) ?_
    rintro ⟨i, hh, c⟩ Q ⟨j1, j2, j3, j4, j5, j6⟩ hQ
    simp only at j1 j2 j3 j4 j5 j6 hQ ⊢
    by_cases ci : i < kids.length
    · have g : ((i : Int) < (kids.length : Int)) = True := eq_true (by omega)
      obtain ⟨x, hx⟩ : ∃ x, kids[i]? = some x := ⟨_, List.getElem?_eq_getElem ci⟩
      have hxm : x ∈ kids := List.mem_of_getElem? hx
      have hac : ∀ (K : D → AHeap → Prop) (h : AHeap), askE 5 K h (Nd.encs kids) (i : Int) = K (.eptr x.enc 0) h := fun K h => askE_encs hx
      have hpx := part_enc x
      have dr : kids.drop i = x :: kids.drop (i + 1) := by
        rw [List.drop_eq_getElem_cons ci]
        congr 1
        exact (List.getElem?_eq_some_iff.1 hx).2
      rw [dr, cnts_cons] at j5
      rw [dr, listFs_cons] at j6
      have wc : IntKind.i64.wrap (c + 1) = c + 1 := wrap_i64 (by omega) (by omega)
      have wi : IntKind.i64.wrap ((i : Int) + 1) = ((i + 1 : Nat) : Int) := wrap_succ (by omega)
      have hxc := hcn x hxm
      have hx5 := len_enc x
      have hxo := enc_ok x
      have hlx := listF_len x
      obtain ⟨xk, xt, xs, xm, xl⟩ := x
      rw [enc_mk] at *
      simp (config := {maxSteps := 1000000}) only [g, hac, hpx, e3, e3', wc, wi, hTq, zzK, seval]
      intro i8 n1 n2 n3 n4 n5
      simp (config := {maxSteps := 1000000}) only [g, hac, hpx, e3, e3', wc, wi, hTq, n1, n2, n3, n4, n5, j2, j3, hTc, zzK, seval]
      refine ⟨hh.set id (.cells [.int .i64 (c + 1)]), [(i8, .cells [.int .i64 xk, .int .i64 xt, .str xs, .int .i64 xm, .sl (Nd.encs xl)]), (i3, .cells [.int .i64 k, .int .i64 t, .str s, .int .i64 m, .sl (Nd.encs kids)])], ?_, ?_, ?_⟩
      · refine AHeap.ext fun q => ?_
        simp only [AHeap.puts, List.foldr_cons, List.foldr_nil, AHeap.set_f]
        by_cases q1r : q = i8
        · subst q1r; simp [n1, n2, n3, n4]
        · by_cases q2r : q = i3
          · subst q2r; simp [q1r, e3]
          · by_cases q3r : q = id
            · simp [q3r, n1, n2, n3, n4, e3, e3']
            · simp [q1r, q2r, q3r]
      · intro p hp
        simp only [List.mem_cons, List.not_mem_nil, or_false] at hp
        rcases hp with rfl | rfl
        · simp [n1, n2, n3, n4, n5]
        · simp [e3, j3]
      refine ⟨.mk xk xt xs xm xl, c + 1, id, hh, by rw [enc_mk], rfl, j2, hxc, by omega, by omega, YI_monoK hY _ _ _ _ _ (fun b hn cn kk hid hL => ?_) (YI_idx hY _ _ _ _ (YI_app hY _ _ _ _ _ j6))⟩
      obtain ⟨⟨kt, kf⟩, ki⟩ := kk
      have hL1 := hL _ List.mem_cons_self
      have hL2 := hL _ (List.mem_cons_of_mem _ List.mem_cons_self)
      simp only [AHeap.set_f] at hL1 hL2
      rw [if_neg (by first | exact n1 | exact n2 | exact n3 | exact n4)] at hL1
      rw [if_neg e3] at hL2
      simp only [AHeap.puts, List.foldr_cons, List.foldr_nil]
      cases b with
      | false =>
        have kf := kf rfl hid
        simp (config := {maxSteps := 1000000}) only [e3, e3', retU_ret, Bool.not_false, zzK, seval]
        exact ⟨_, AHeap.sub_X (AHeap.subX_r (.inr (by simp [hL1, n1, n2, n3, n4, e3, hL2])) (AHeap.subX_r (.inr (by simp [hL2, e3])) AHeap.subX_refl)), kf⟩
      | true =>
        have kt := kt rfl
        have ki := ki rfl
        simp (config := {maxSteps := 1000000}) only [e3, e3', wi, Bool.not_true, zzK, seval]
        refine hQ (i + 1, hn, cn) _ _ ⟨by omega, hid, hL2, show 0 ≤ cn by omega, by simp only; rw [hlx] at ki; omega, kt⟩ (by simp only [zzK, seval]) ?_ (by simp only; omega)
        exact AHeap.sub_X (AHeap.subX_r (.inr (by simp [hL1, n1, n2, n3, n4, hL2])) (AHeap.subX_l (by simp) (AHeap.subX_l (by simp [e3, e3']) (AHeap.subX_r (.inl (by simp)) (AHeap.subX_r (.inl (by simp)) AHeap.subX_refl)))))
    · have e0 : i = kids.length := by omega
      subst e0
      have g : ((kids.length : Int) < (kids.length : Int)) = False := eq_false (by omega)
      rw [List.drop_length, listFs_nil] at j6
      have kk : K (.bool true) (hh.set id (.cells [.int .i64 c])) := by
        have : YI Y [] (c + 1) hh (fun b h' a' => h'.f id = none → K (.bool b) (h'.set id (.cells [.int .i64 a']))) = ((hh.f id = none → K (.bool true) (hh.set id (.cells [.int .i64 (c + 1 - 1)])))) := rfl
        rw [this, show c + 1 - 1 = c by omega] at j6
        exact j6 j2
      simp (config := {maxSteps := 1000000}) only [g, retU_ret, zzK, seval]
      exact ⟨_, AHeap.sub_X (AHeap.subX_r (.inr (by simp [j3, e3])) AHeap.subX_refl), kk⟩

theorem walk_ok (l : Nat) (Y : List D → AHeap → (D → AHeap → Prop) → Prop) (hY : YMono Y) : ∀ (f : Nat) (κ : Kap) (w : World), (∀ args h K, Y args h K → ∀ κ' w', Le κ w κ' w' → YCalls Tryz.prog κ' w' l args h K) → ∀ args h K, cW l Y f args h K → ACallsAt Tryz.prog κ w 43 args h fun o h' => ∃ d, o = .ret d ∧ K d h'
  | 0, κ, w, hs, args, h, K, x => by
    obtain ⟨n, a, id, h0, e1, e2, e3, e4, _⟩ := x
    omega
  | f + 1, κ, w, hs, args, h, K, x => by
    refine walk_step κ w l Y hY f ?_ args h K x
    refine Tab.addW_okY (Tab.addY_ok ((Tab.zero_ok _).toY κ w) hs) fun args h K x κ' w' le => ?_
    exact frameC_ok (fun args h K x => walk_ok l Y hY f κ' w' (fun args h K y κ'' w'' le' => hs args h K y κ'' w'' (le.trans le')) args h K x) args h K x
/-- A range over all nodes of a tree. -/
def rAll (l : Nat) (Y : List D → AHeap → (D → AHeap → Prop) → Prop) (args : List D) (h : AHeap) (K : D → AHeap → Prop) : Prop :=
  ∃ (n : Nd) (id : Nat), args = [.func (.yield l) [] [], .ptr id 1 0] ∧ h.f id = some (.cells (Nd.enc n)) ∧ n.cnt ≤ 100000000 ∧ YI Y (listF n) 0 h (fun _ h' _ => K (.tuple []) h')
theorem rAll_mono (l : Nat) (Y Y' : List D → AHeap → (D → AHeap → Prop) → Prop) (args : List D) (h : AHeap) (K K' : D → AHeap → Prop) (hY : ∀ args h (K K' : D → AHeap → Prop), (∀ d h, K d h → K' d h) → Y args h K → Y' args h K') (hk : ∀ d h, K d h → K' d h) (x : rAll l Y args h K) : rAll l Y' args h K' := by
  obtain ⟨n, id, e1, e2, e3, y⟩ := x
  exact ⟨n, id, e1, e2, e3, YI_mono hY _ _ _ _ _ (fun _ _ _ k => hk _ _ k) y⟩
def tbV (l : Nat) (Y : List D → AHeap → (D → AHeap → Prop) → Prop) (hY : YMono Y) (f : Nat) : Tab := (Tab.zero.addY l Y hY).addW 43 (cW l Y f) (cW_mono hY)
theorem tbV_q (l : Nat) (Y) (hY : YMono Y) (f : Nat) (g : FuncId) (xs : List D) : (tbV l Y hY f).q g xs = none := rfl
theorem tbV_c (l : Nat) (Y) (hY : YMono Y) (f : Nat) (g : FuncId) (xs : List D) (h : AHeap) (K E : D → AHeap → Prop) : (tbV l Y hY f).c g xs h K E = if g = 43 then cW l Y f xs h K else False := rfl
theorem rAll_ok (l : Nat) (Y : List D → AHeap → (D → AHeap → Prop) → Prop) (args : List D) (h : AHeap) (K : D → AHeap → Prop) (κ : Kap) (w : World) (hY : YMono Y) (hs : ∀ args h K, Y args h K → ∀ κ' w', Le κ w κ' w' → YCalls Tryz.prog κ' w' l args h K) (x : rAll l Y args h K) :
    ACallsAt Tryz.prog κ w 42 args h (AOut.to K fun _ _ => False) := by
  obtain ⟨n, id, rfl, hid, hn, y⟩ := x
  have hT : (tbV l Y hY 200000000).okY Tryz.prog κ w := Tab.addW_okY (Tab.addY_ok ((Tab.zero_ok _).toY κ w) hs) fun args h K x κ' w' le =>
    walk_ok l Y hY _ κ' w' (fun args h K y κ'' w'' le' => hs args h K y κ'' w'' (le.trans le')) args h K x
  have key : ACallsAt Tryz.prog κ w 42 [.func (.yield l) [] [], .ptr id 1 0] h fun o h' => ∃ d, o = .ret d ∧ K d h' := by
    refine ACallsAt.of_U hT st76r (by simp) ?_
    have hTq := tbV_q l Y hY 200000000
    have hTc := tbV_c l Y hY 200000000
    generalize tbV l Y hY 200000000 = TT at hTq hTc ⊢
    obtain ⟨k, t, s, m, kids⟩ := n
    have hid' := hid
    rw [enc_mk] at hid'
    simp (config := {maxSteps := 1000000}) only [s76r, zzK, seval]
    intro i3 f3
    have ne : ¬ i3 = id := fun e => by subst e; rw [hid] at f3; cases f3
    have ne' : ¬ id = i3 := fun e => ne e.symm
    simp (config := {maxSteps := 1000000}) only [f3, ne, ne', hid', hTc, zzK, seval]
    refine ⟨.mk k t s m kids, 0, i3, h, by rw [enc_mk], rfl, f3, by omega, by omega, by omega, YI_monoK hY _ _ _ _ _ (fun b h' a' kk hi3 => ?_) y⟩
    simp (config := {maxSteps := 1000000}) only [retU_normal, zzK, seval]
    exact ⟨h', AHeap.sub_X (AHeap.subX_r (.inr hi3) AHeap.subX_refl), kk⟩
  exact ⟨key.1, fun vs hi hr => (key.2 vs hi hr).mono fun e w' ⟨o, h', κ', ⟨d, a1, a2⟩, b⟩ => ⟨o, h', κ', by subst a1; exact a2, b⟩⟩
def tb46r : Tab := Tab.zero.addS 22 s46r [.tmp 2] 4
theorem tb46r_q : tb46r.q = Tab.zero.q := rfl
theorem tb46r_a : tb46r.a = Tab.zero.a := rfl
theorem tb46r_c (g : FuncId) (args : List D) (h : AHeap) (K E : D → AHeap → Prop) : tb46r.c g args h K E = if g = 22 then (args.length ≤ 4 ∧ vc Tab.zero s46r (todo Tab.zero (retS [.tmp 2] K) (panS E) []) (panS E) (argFr args) h) else Tab.zero.c g args h K E := rfl
theorem tb46r_ok : tb46r.ok Tryz.prog := Tab.addS_ok (Tab.zero_ok _) st46r
theorem tb46r_e : type_of% (And.intro @tb46r_q (And.intro @tb46r_a @tb46r_c)) := (And.intro @tb46r_q (And.intro @tb46r_a @tb46r_c))

def tbR : Tab := tb46r.addR 42 rAll rAll_mono
theorem tbR_q : tbR.q = tb46r.q := rfl
theorem tbR_a : tbR.a = tb46r.a := rfl
theorem tbR_c : tbR.c = tb46r.c := rfl
theorem tbR_e : type_of% (And.intro (And.intro @tbR_q (And.intro @tbR_a @tbR_c)) @tb46r_e) := (And.intro (And.intro @tbR_q (And.intro @tbR_a @tbR_c)) @tb46r_e)
theorem tbR_r (g : FuncId) (l : Nat) (Y : List D → AHeap → (D → AHeap → Prop) → Prop) (xs : List D) (h : AHeap) (K : D → AHeap → Prop) : tbR.r g l Y xs h K = if g = 42 then rAll l Y xs h K else tb46r.r g l Y xs h K := rfl
theorem tbR_ok : tbR.ok Tryz.prog := Tab.addR_ok tb46r_ok fun l Y args h K κ w hY hs x => rAll_ok l Y args h K κ w hY hs x
theorem params2 (σ : Fr) (p q : Nat) (d e : D) : σ.params [p, q] [d, e] = (({ σ with defs := [] } : Fr).put (some p) d).put (some q) e := rfl
end
end Go.Proofs.YtpagdhbmbnoddaaGreatDoor.Zz
