/- Contracts: values. -/
import Derived.Test.YtaimobfakcompaaZB1
namespace Go.Proofs.Ytaimobfakcompaa.Zz
set_option linter.unusedVariables false
set_option linter.unusedSimpArgs false
set_option maxRecDepth 20000
def p27 : Plan := ⟨⟨[], [], [], [], [], []⟩, []⟩
/-- cupel/val.Int (1 parameters, 0 captured) -/
def s27 : Stm :=
  .seq (.ops [⟨.alloc [(.int .i64 0), (.int .i64 0)], (some 2), none, false⟩])
  (.seq (.ops [⟨.mov (.t 0), (some 3), none, true⟩,
     ⟨.build [(.int .i64 0), (.int .i64 0)] [(0, 1, (.c (.int .i64 1))), (1, 1, (.t 3))], (some 4), none, true⟩,
     ⟨.store 2 (.t 2) (.t 4), none, none, false⟩])
  (.ret))
theorem st27 : stmOf Try.prog 27 p27 = some (s27, [.cell 2 (some 2)], 5) := by kernel_rfl

def p60 : Plan := ⟨⟨[], [], [], [], [], []⟩, []⟩
/-- math.NaN (0 parameters, 0 captured) -/
def s60 : Stm :=
  .seq (.ops [⟨.mov (.c (.float .f64 0)), (some 0), none, true⟩])
  (.seq (.ops [⟨.qcall (.f 31) [(.c (.int .u64 9221120237041090561))], (some 1), none, false⟩,
     ⟨.mov (.t 1), (some 0), none, true⟩])
  (.ret))
theorem st60 : stmOf Try.prog 60 p60 = some (s60, [.tmp 0], 2) := by kernel_rfl

def p32 : Plan := ⟨⟨[], [], [], [], [], []⟩, []⟩
/-- cupel/val.Float (1 parameters, 0 captured) -/
def s32 : Stm :=
  .seq (.ops [⟨.alloc [(.int .i64 0), (.int .i64 0)], (some 2), none, false⟩])
  (.seq (.seq (.ops [⟨.mov (.t 0), (some 3), none, true⟩,
      ⟨.mov (.t 0), (some 4), none, true⟩,
      ⟨.bin .neq (.t 3) (.t 4), (some 5), none, true⟩])
   (.cond (.t 5)
    (.ops [⟨.qcall (.f 60) [], (some 6), none, false⟩,
       ⟨.mov (.t 6), (some 0), none, true⟩])
    (.skip)))
  (.seq (.ops [⟨.mov (.t 0), (some 7), none, true⟩,
     ⟨.qcall (.f 61) [(.t 7)], (some 8), none, false⟩,
     ⟨.conv (.intInt .i64) (.t 8), (some 9), none, true⟩,
     ⟨.build [(.int .i64 0), (.int .i64 0)] [(0, 1, (.c (.int .i64 2))), (1, 1, (.t 9))], (some 10), none, true⟩,
     ⟨.store 2 (.t 2) (.t 10), none, none, false⟩])
  (.ret)))
theorem st32 : stmOf Try.prog 32 p32 = some (s32, [.cell 2 (some 2)], 11) := by kernel_rfl

def p30 : Plan := ⟨⟨[], [], [], [], [], []⟩, []⟩
/-- cupel/val.Of (1 parameters, 0 captured) -/
def s30 : Stm :=
  .seq (.ops [⟨.box (.t 0), (some 1), none, false⟩,
     ⟨.mov (.c (.float .f64 0)), (some 2), none, true⟩])
  (.seq (.ops [⟨.fieldAddr 1 (.t 1), (some 3), none, true⟩,
     ⟨.load none (.t 3), (some 4), none, false⟩,
     ⟨.conv (.intInt .u64) (.t 4), (some 5), none, true⟩,
     ⟨.qcall (.f 31) [(.t 5)], (some 6), none, false⟩,
     ⟨.mov (.t 6), (some 2), none, true⟩])
  (.ret))
theorem st30 : stmOf Try.prog 30 p30 = some (s30, [.tmp 2], 7) := by kernel_rfl

def p36 : Plan := ⟨⟨[], [], [], [], [], []⟩, []⟩
/-- cupel/val.Bool (1 parameters, 0 captured) -/
def s36 : Stm :=
  .seq (.ops [⟨.alloc [(.int .i64 0), (.int .i64 0)], (some 2), none, false⟩])
  (.seq (.seq (.ops [⟨.mov (.t 0), (some 3), none, true⟩])
   (.cond (.t 3)
    (.seq (.ops [⟨.build [(.int .i64 0), (.int .i64 0)] [(0, 1, (.c (.int .i64 3))), (1, 1, (.c (.int .i64 1)))], (some 4), none, true⟩,
        ⟨.store 2 (.t 2) (.t 4), none, none, false⟩])
     (.ret))
    (.skip)))
  (.seq (.ops [⟨.build [(.int .i64 0), (.int .i64 0)] [(0, 1, (.c (.int .i64 3)))], (some 5), none, true⟩,
     ⟨.store 2 (.t 2) (.t 5), none, none, false⟩])
  (.ret)))
theorem st36 : stmOf Try.prog 36 p36 = some (s36, [.cell 2 (some 2)], 6) := by kernel_rfl

def p29 : Plan := ⟨⟨[], [], [], [], [], []⟩, []⟩
/-- cupel/val.True (1 parameters, 0 captured) -/
def s29 : Stm :=
  .seq (.ops [⟨.box (.t 0), (some 1), none, false⟩,
     ⟨.mov (.c (.bool false)), (some 2), none, true⟩])
  (.seq (.ops [⟨.fieldAddr 0 (.t 1), (some 3), none, true⟩,
     ⟨.load none (.t 3), (some 4), none, false⟩,
     ⟨.bin .eql (.t 4) (.c (.int .i64 3)), (some 5), none, true⟩,
     ⟨.mov (.t 5), (some 6), none, true⟩,
     ⟨.fieldAddr 1 (.t 1), (some 7), (some (6, true)), true⟩,
     ⟨.load none (.t 7), (some 8), (some (6, true)), false⟩,
     ⟨.bin .neq (.t 8) (.c (.int .i64 0)), (some 9), (some (6, true)), true⟩,
     ⟨.pick (.t 6) (.t 9) (.c (.bool false)), (some 10), none, true⟩,
     ⟨.mov (.t 10), (some 2), none, true⟩])
  (.ret))
theorem st29 : stmOf Try.prog 29 p29 = some (s29, [.tmp 2], 11) := by kernel_rfl

def p57 : Plan := ⟨⟨[], [], [], [], [], []⟩, []⟩
/-- cupel/val.Known (2 parameters, 0 captured) -/
def s57 : Stm :=
  .seq (.ops [⟨.mov (.c (.bool false)), (some 4), none, true⟩])
  (.seq (.seq (.ops [⟨.mov (.t 0), (some 5), none, true⟩])
   (.block 0 (.seq (.seq (.ops [⟨.bin .eql (.t 5) (.c (.str [43])), (some 7), none, true⟩,
        ⟨.mov (.t 7), (some 6), none, true⟩])
     (.cond (.t 6)
      (.skip)
      (.seq (.ops [⟨.bin .eql (.t 5) (.c (.str [45])), (some 8), none, true⟩,
          ⟨.mov (.t 8), (some 6), none, true⟩])
       (.cond (.t 6)
        (.skip)
        (.seq (.ops [⟨.bin .eql (.t 5) (.c (.str [42])), (some 9), none, true⟩,
            ⟨.mov (.t 9), (some 6), none, true⟩])
         (.cond (.t 6)
          (.skip)
          (.seq (.ops [⟨.bin .eql (.t 5) (.c (.str [47])), (some 10), none, true⟩,
              ⟨.mov (.t 10), (some 6), none, true⟩])
           (.cond (.t 6)
            (.skip)
            (.seq (.ops [⟨.bin .eql (.t 5) (.c (.str [60])), (some 11), none, true⟩,
                ⟨.mov (.t 11), (some 6), none, true⟩])
             (.cond (.t 6)
              (.skip)
              (.seq (.ops [⟨.bin .eql (.t 5) (.c (.str [60, 61])), (some 12), none, true⟩,
                  ⟨.mov (.t 12), (some 6), none, true⟩])
               (.cond (.t 6)
                (.skip)
                (.seq (.ops [⟨.bin .eql (.t 5) (.c (.str [62])), (some 13), none, true⟩,
                    ⟨.mov (.t 13), (some 6), none, true⟩])
                 (.cond (.t 6)
                  (.skip)
                  (.ops [⟨.bin .eql (.t 5) (.c (.str [62, 61])), (some 14), none, true⟩,
                     ⟨.mov (.t 14), (some 6), none, true⟩])))))))))))))))
    (.cond (.t 6)
     (.seq (.ops [⟨.mov (.t 1), (some 15), none, true⟩,
         ⟨.bin .eql (.t 15) (.c (.int .i64 1)), (some 16), none, true⟩,
         ⟨.mov (.t 16), (some 17), none, true⟩,
         ⟨.mov (.t 1), (some 18), (some (17, false)), true⟩,
         ⟨.bin .eql (.t 18) (.c (.int .i64 2)), (some 19), (some (17, false)), true⟩,
         ⟨.pick (.t 17) (.c (.bool true)) (.t 19), (some 20), none, true⟩,
         ⟨.mov (.t 20), (some 4), none, true⟩])
      (.ret))
     (.seq (.ops [⟨.bin .eql (.t 5) (.c (.str [37])), (some 22), none, true⟩,
         ⟨.mov (.t 22), (some 21), none, true⟩])
      (.cond (.t 21)
       (.seq (.ops [⟨.mov (.t 1), (some 23), none, true⟩,
           ⟨.bin .eql (.t 23) (.c (.int .i64 1)), (some 24), none, true⟩,
           ⟨.mov (.t 24), (some 4), none, true⟩])
        (.ret))
       (.seq (.seq (.ops [⟨.bin .eql (.t 5) (.c (.str [38, 38])), (some 26), none, true⟩,
            ⟨.mov (.t 26), (some 25), none, true⟩])
         (.cond (.t 25)
          (.skip)
          (.ops [⟨.bin .eql (.t 5) (.c (.str [124, 124])), (some 27), none, true⟩,
             ⟨.mov (.t 27), (some 25), none, true⟩])))
        (.cond (.t 25)
         (.seq (.ops [⟨.mov (.t 1), (some 28), none, true⟩,
             ⟨.bin .eql (.t 28) (.c (.int .i64 3)), (some 29), none, true⟩,
             ⟨.mov (.t 29), (some 4), none, true⟩])
          (.ret))
         (.seq (.seq (.ops [⟨.bin .eql (.t 5) (.c (.str [61, 61])), (some 31), none, true⟩,
              ⟨.mov (.t 31), (some 30), none, true⟩])
           (.cond (.t 30)
            (.skip)
            (.ops [⟨.bin .eql (.t 5) (.c (.str [33, 61])), (some 32), none, true⟩,
               ⟨.mov (.t 32), (some 30), none, true⟩])))
          (.cond (.t 30)
           (.seq (.ops [⟨.mov (.t 1), (some 33), none, true⟩,
               ⟨.bin .geq (.t 33) (.c (.int .i64 1)), (some 34), none, true⟩,
               ⟨.mov (.t 34), (some 35), none, true⟩,
               ⟨.mov (.t 1), (some 36), (some (35, true)), true⟩,
               ⟨.bin .leq (.t 36) (.c (.int .i64 3)), (some 37), (some (35, true)), true⟩,
               ⟨.pick (.t 35) (.t 37) (.c (.bool false)), (some 38), none, true⟩,
               ⟨.mov (.t 38), (some 4), none, true⟩])
            (.ret))
           (.skip)))))))))))
  (.seq (.ops [⟨.mov (.c (.bool false)), (some 4), none, true⟩])
  (.ret)))
theorem st57 : stmOf Try.prog 57 p57 = some (s57, [.tmp 4], 39) := by kernel_rfl

def p59 : Plan := ⟨⟨[], [], [], [], [], []⟩, []⟩
/-- cupel/val.ints (3 parameters, 0 captured) -/
def s59 : Stm :=
  .seq (.ops [⟨.alloc [(.int .i64 0), (.int .i64 0)], (some 6), none, false⟩,
     ⟨.mov (.c (.int .i64 0)), (some 7), none, true⟩])
  (.seq (.seq (.ops [⟨.mov (.t 0), (some 8), none, true⟩])
   (.block 0 (.seq (.ops [⟨.bin .eql (.t 8) (.c (.str [43])), (some 10), none, true⟩,
       ⟨.mov (.t 10), (some 9), none, true⟩])
    (.cond (.t 9)
     (.seq (.ops [⟨.mov (.t 1), (some 11), none, true⟩,
         ⟨.mov (.t 2), (some 12), none, true⟩,
         ⟨.bin .add (.t 11) (.t 12), (some 13), none, true⟩,
         ⟨.qcall (.f 27) [(.t 13)], (some 14), none, false⟩,
         ⟨.store 2 (.t 6) (.t 14), none, none, false⟩,
         ⟨.mov (.c (.int .i64 0)), (some 7), none, true⟩])
      (.ret))
     (.seq (.ops [⟨.bin .eql (.t 8) (.c (.str [45])), (some 16), none, true⟩,
         ⟨.mov (.t 16), (some 15), none, true⟩])
      (.cond (.t 15)
       (.seq (.ops [⟨.mov (.t 1), (some 17), none, true⟩,
           ⟨.mov (.t 2), (some 18), none, true⟩,
           ⟨.bin .sub (.t 17) (.t 18), (some 19), none, true⟩,
           ⟨.qcall (.f 27) [(.t 19)], (some 20), none, false⟩,
           ⟨.store 2 (.t 6) (.t 20), none, none, false⟩,
           ⟨.mov (.c (.int .i64 0)), (some 7), none, true⟩])
        (.ret))
       (.seq (.ops [⟨.bin .eql (.t 8) (.c (.str [42])), (some 22), none, true⟩,
           ⟨.mov (.t 22), (some 21), none, true⟩])
        (.cond (.t 21)
         (.seq (.ops [⟨.mov (.t 1), (some 23), none, true⟩,
             ⟨.mov (.t 2), (some 24), none, true⟩,
             ⟨.bin .mul (.t 23) (.t 24), (some 25), none, true⟩,
             ⟨.qcall (.f 27) [(.t 25)], (some 26), none, false⟩,
             ⟨.store 2 (.t 6) (.t 26), none, none, false⟩,
             ⟨.mov (.c (.int .i64 0)), (some 7), none, true⟩])
          (.ret))
         (.seq (.seq (.ops [⟨.bin .eql (.t 8) (.c (.str [47])), (some 28), none, true⟩,
              ⟨.mov (.t 28), (some 27), none, true⟩])
           (.cond (.t 27)
            (.skip)
            (.ops [⟨.bin .eql (.t 8) (.c (.str [37])), (some 29), none, true⟩,
               ⟨.mov (.t 29), (some 27), none, true⟩])))
          (.cond (.t 27)
           (.seq (.seq (.ops [⟨.mov (.t 2), (some 30), none, true⟩,
                ⟨.bin .eql (.t 30) (.c (.int .i64 0)), (some 31), none, true⟩])
             (.cond (.t 31)
              (.seq (.ops [⟨.build [(.int .i64 0), (.int .i64 0)] [], (some 32), none, true⟩,
                  ⟨.store 2 (.t 6) (.t 32), none, none, false⟩,
                  ⟨.mov (.c (.int .i64 3)), (some 7), none, true⟩])
               (.ret))
              (.skip)))
            (.seq (.seq (.ops [⟨.mov (.t 0), (some 33), none, true⟩,
                ⟨.bin .eql (.t 33) (.c (.str [47])), (some 34), none, true⟩])
             (.cond (.t 34)
              (.seq (.ops [⟨.mov (.t 1), (some 35), none, true⟩,
                  ⟨.mov (.t 2), (some 36), none, true⟩,
                  ⟨.bin .quo (.t 35) (.t 36), (some 37), none, true⟩,
                  ⟨.qcall (.f 27) [(.t 37)], (some 38), none, false⟩,
                  ⟨.store 2 (.t 6) (.t 38), none, none, false⟩,
                  ⟨.mov (.c (.int .i64 0)), (some 7), none, true⟩])
               (.ret))
              (.skip)))
            (.seq (.ops [⟨.mov (.t 1), (some 39), none, true⟩,
               ⟨.mov (.t 2), (some 40), none, true⟩,
               ⟨.bin .rem (.t 39) (.t 40), (some 41), none, true⟩,
               ⟨.qcall (.f 27) [(.t 41)], (some 42), none, false⟩,
               ⟨.store 2 (.t 6) (.t 42), none, none, false⟩,
               ⟨.mov (.c (.int .i64 0)), (some 7), none, true⟩])
            (.ret))))
           (.seq (.ops [⟨.bin .eql (.t 8) (.c (.str [60])), (some 44), none, true⟩,
               ⟨.mov (.t 44), (some 43), none, true⟩])
            (.cond (.t 43)
             (.seq (.ops [⟨.mov (.t 1), (some 45), none, true⟩,
                 ⟨.mov (.t 2), (some 46), none, true⟩,
                 ⟨.bin .lss (.t 45) (.t 46), (some 47), none, true⟩,
                 ⟨.qcall (.f 36) [(.t 47)], (some 48), none, false⟩,
                 ⟨.store 2 (.t 6) (.t 48), none, none, false⟩,
                 ⟨.mov (.c (.int .i64 0)), (some 7), none, true⟩])
              (.ret))
             (.seq (.ops [⟨.bin .eql (.t 8) (.c (.str [60, 61])), (some 50), none, true⟩,
                 ⟨.mov (.t 50), (some 49), none, true⟩])
              (.cond (.t 49)
               (.seq (.ops [⟨.mov (.t 1), (some 51), none, true⟩,
                   ⟨.mov (.t 2), (some 52), none, true⟩,
                   ⟨.bin .leq (.t 51) (.t 52), (some 53), none, true⟩,
                   ⟨.qcall (.f 36) [(.t 53)], (some 54), none, false⟩,
                   ⟨.store 2 (.t 6) (.t 54), none, none, false⟩,
                   ⟨.mov (.c (.int .i64 0)), (some 7), none, true⟩])
                (.ret))
               (.seq (.ops [⟨.bin .eql (.t 8) (.c (.str [62])), (some 56), none, true⟩,
                   ⟨.mov (.t 56), (some 55), none, true⟩])
                (.cond (.t 55)
                 (.seq (.ops [⟨.mov (.t 1), (some 57), none, true⟩,
                     ⟨.mov (.t 2), (some 58), none, true⟩,
                     ⟨.bin .gtr (.t 57) (.t 58), (some 59), none, true⟩,
                     ⟨.qcall (.f 36) [(.t 59)], (some 60), none, false⟩,
                     ⟨.store 2 (.t 6) (.t 60), none, none, false⟩,
                     ⟨.mov (.c (.int .i64 0)), (some 7), none, true⟩])
                  (.ret))
                 (.seq (.ops [⟨.bin .eql (.t 8) (.c (.str [62, 61])), (some 62), none, true⟩,
                     ⟨.mov (.t 62), (some 61), none, true⟩])
                  (.cond (.t 61)
                   (.seq (.ops [⟨.mov (.t 1), (some 63), none, true⟩,
                       ⟨.mov (.t 2), (some 64), none, true⟩,
                       ⟨.bin .geq (.t 63) (.t 64), (some 65), none, true⟩,
                       ⟨.qcall (.f 36) [(.t 65)], (some 66), none, false⟩,
                       ⟨.store 2 (.t 6) (.t 66), none, none, false⟩,
                       ⟨.mov (.c (.int .i64 0)), (some 7), none, true⟩])
                    (.ret))
                   (.seq (.ops [⟨.bin .eql (.t 8) (.c (.str [61, 61])), (some 68), none, true⟩,
                       ⟨.mov (.t 68), (some 67), none, true⟩])
                    (.cond (.t 67)
                     (.seq (.ops [⟨.mov (.t 1), (some 69), none, true⟩,
                         ⟨.mov (.t 2), (some 70), none, true⟩,
                         ⟨.bin .eql (.t 69) (.t 70), (some 71), none, true⟩,
                         ⟨.qcall (.f 36) [(.t 71)], (some 72), none, false⟩,
                         ⟨.store 2 (.t 6) (.t 72), none, none, false⟩,
                         ⟨.mov (.c (.int .i64 0)), (some 7), none, true⟩])
                      (.ret))
                     (.skip)))))))))))))))))))))
  (.seq (.ops [⟨.mov (.t 1), (some 73), none, true⟩,
     ⟨.mov (.t 2), (some 74), none, true⟩,
     ⟨.bin .neq (.t 73) (.t 74), (some 75), none, true⟩,
     ⟨.qcall (.f 36) [(.t 75)], (some 76), none, false⟩,
     ⟨.store 2 (.t 6) (.t 76), none, none, false⟩,
     ⟨.mov (.c (.int .i64 0)), (some 7), none, true⟩])
  (.ret)))
theorem st59 : stmOf Try.prog 59 p59 = some (s59, [.cell 6 (some 2), .tmp 7], 77) := by kernel_rfl

def p58 : Plan := ⟨⟨[], [], [], [], [], []⟩, []⟩
/-- cupel/val.floats (3 parameters, 0 captured) -/
def s58 : Stm :=
  .seq (.ops [⟨.alloc [(.int .i64 0), (.int .i64 0)], (some 6), none, false⟩,
     ⟨.mov (.c (.int .i64 0)), (some 7), none, true⟩])
  (.seq (.seq (.ops [⟨.mov (.t 0), (some 8), none, true⟩])
   (.block 0 (.seq (.ops [⟨.bin .eql (.t 8) (.c (.str [43])), (some 10), none, true⟩,
       ⟨.mov (.t 10), (some 9), none, true⟩])
    (.cond (.t 9)
     (.seq (.ops [⟨.mov (.t 1), (some 11), none, true⟩,
         ⟨.mov (.t 2), (some 12), none, true⟩,
         ⟨.farith .add (.t 11) (.t 12), (some 13), none, false⟩,
         ⟨.qcall (.f 32) [(.t 13)], (some 14), none, false⟩,
         ⟨.store 2 (.t 6) (.t 14), none, none, false⟩,
         ⟨.mov (.c (.int .i64 0)), (some 7), none, true⟩])
      (.ret))
     (.seq (.ops [⟨.bin .eql (.t 8) (.c (.str [45])), (some 16), none, true⟩,
         ⟨.mov (.t 16), (some 15), none, true⟩])
      (.cond (.t 15)
       (.seq (.ops [⟨.mov (.t 1), (some 17), none, true⟩,
           ⟨.mov (.t 2), (some 18), none, true⟩,
           ⟨.farith .sub (.t 17) (.t 18), (some 19), none, false⟩,
           ⟨.qcall (.f 32) [(.t 19)], (some 20), none, false⟩,
           ⟨.store 2 (.t 6) (.t 20), none, none, false⟩,
           ⟨.mov (.c (.int .i64 0)), (some 7), none, true⟩])
        (.ret))
       (.seq (.ops [⟨.bin .eql (.t 8) (.c (.str [42])), (some 22), none, true⟩,
           ⟨.mov (.t 22), (some 21), none, true⟩])
        (.cond (.t 21)
         (.seq (.ops [⟨.mov (.t 1), (some 23), none, true⟩,
             ⟨.mov (.t 2), (some 24), none, true⟩,
             ⟨.farith .mul (.t 23) (.t 24), (some 25), none, false⟩,
             ⟨.qcall (.f 32) [(.t 25)], (some 26), none, false⟩,
             ⟨.store 2 (.t 6) (.t 26), none, none, false⟩,
             ⟨.mov (.c (.int .i64 0)), (some 7), none, true⟩])
          (.ret))
         (.seq (.ops [⟨.bin .eql (.t 8) (.c (.str [47])), (some 28), none, true⟩,
             ⟨.mov (.t 28), (some 27), none, true⟩])
          (.cond (.t 27)
           (.seq (.ops [⟨.mov (.t 1), (some 29), none, true⟩,
               ⟨.mov (.t 2), (some 30), none, true⟩,
               ⟨.farith .quo (.t 29) (.t 30), (some 31), none, false⟩,
               ⟨.qcall (.f 32) [(.t 31)], (some 32), none, false⟩,
               ⟨.store 2 (.t 6) (.t 32), none, none, false⟩,
               ⟨.mov (.c (.int .i64 0)), (some 7), none, true⟩])
            (.ret))
           (.seq (.ops [⟨.bin .eql (.t 8) (.c (.str [60])), (some 34), none, true⟩,
               ⟨.mov (.t 34), (some 33), none, true⟩])
            (.cond (.t 33)
             (.seq (.ops [⟨.mov (.t 1), (some 35), none, true⟩,
                 ⟨.mov (.t 2), (some 36), none, true⟩,
                 ⟨.bin .lss (.t 35) (.t 36), (some 37), none, true⟩,
                 ⟨.qcall (.f 36) [(.t 37)], (some 38), none, false⟩,
                 ⟨.store 2 (.t 6) (.t 38), none, none, false⟩,
                 ⟨.mov (.c (.int .i64 0)), (some 7), none, true⟩])
              (.ret))
             (.seq (.ops [⟨.bin .eql (.t 8) (.c (.str [60, 61])), (some 40), none, true⟩,
                 ⟨.mov (.t 40), (some 39), none, true⟩])
              (.cond (.t 39)
               (.seq (.ops [⟨.mov (.t 1), (some 41), none, true⟩,
                   ⟨.mov (.t 2), (some 42), none, true⟩,
                   ⟨.bin .leq (.t 41) (.t 42), (some 43), none, true⟩,
                   ⟨.qcall (.f 36) [(.t 43)], (some 44), none, false⟩,
                   ⟨.store 2 (.t 6) (.t 44), none, none, false⟩,
                   ⟨.mov (.c (.int .i64 0)), (some 7), none, true⟩])
                (.ret))
               (.seq (.ops [⟨.bin .eql (.t 8) (.c (.str [62])), (some 46), none, true⟩,
                   ⟨.mov (.t 46), (some 45), none, true⟩])
                (.cond (.t 45)
                 (.seq (.ops [⟨.mov (.t 1), (some 47), none, true⟩,
                     ⟨.mov (.t 2), (some 48), none, true⟩,
                     ⟨.bin .gtr (.t 47) (.t 48), (some 49), none, true⟩,
                     ⟨.qcall (.f 36) [(.t 49)], (some 50), none, false⟩,
                     ⟨.store 2 (.t 6) (.t 50), none, none, false⟩,
                     ⟨.mov (.c (.int .i64 0)), (some 7), none, true⟩])
                  (.ret))
                 (.seq (.ops [⟨.bin .eql (.t 8) (.c (.str [62, 61])), (some 52), none, true⟩,
                     ⟨.mov (.t 52), (some 51), none, true⟩])
                  (.cond (.t 51)
                   (.seq (.ops [⟨.mov (.t 1), (some 53), none, true⟩,
                       ⟨.mov (.t 2), (some 54), none, true⟩,
                       ⟨.bin .geq (.t 53) (.t 54), (some 55), none, true⟩,
                       ⟨.qcall (.f 36) [(.t 55)], (some 56), none, false⟩,
                       ⟨.store 2 (.t 6) (.t 56), none, none, false⟩,
                       ⟨.mov (.c (.int .i64 0)), (some 7), none, true⟩])
                    (.ret))
                   (.seq (.ops [⟨.bin .eql (.t 8) (.c (.str [61, 61])), (some 58), none, true⟩,
                       ⟨.mov (.t 58), (some 57), none, true⟩])
                    (.cond (.t 57)
                     (.seq (.ops [⟨.mov (.t 1), (some 59), none, true⟩,
                         ⟨.mov (.t 2), (some 60), none, true⟩,
                         ⟨.bin .eql (.t 59) (.t 60), (some 61), none, true⟩,
                         ⟨.qcall (.f 36) [(.t 61)], (some 62), none, false⟩,
                         ⟨.store 2 (.t 6) (.t 62), none, none, false⟩,
                         ⟨.mov (.c (.int .i64 0)), (some 7), none, true⟩])
                      (.ret))
                     (.skip)))))))))))))))))))))
  (.seq (.ops [⟨.mov (.t 1), (some 63), none, true⟩,
     ⟨.mov (.t 2), (some 64), none, true⟩,
     ⟨.bin .neq (.t 63) (.t 64), (some 65), none, true⟩,
     ⟨.qcall (.f 36) [(.t 65)], (some 66), none, false⟩,
     ⟨.store 2 (.t 6) (.t 66), none, none, false⟩,
     ⟨.mov (.c (.int .i64 0)), (some 7), none, true⟩])
  (.ret)))
theorem st58 : stmOf Try.prog 58 p58 = some (s58, [.cell 6 (some 2), .tmp 7], 67) := by kernel_rfl

def p26 : Plan := ⟨⟨[], [], [], [], [], []⟩, [(4, [0, 1, 3, 2, 4, 5, 6, 7, 8, 9])]⟩
/-- cupel/val.Binary (3 parameters, 0 captured) -/
def s26 : Stm :=
  .seq (.ops [⟨.box (.t 1), (some 4), none, false⟩,
     ⟨.box (.t 2), (some 5), none, false⟩,
     ⟨.alloc [(.int .i64 0), (.int .i64 0)], (some 6), none, false⟩,
     ⟨.mov (.c (.int .i64 0)), (some 7), none, true⟩])
  (.seq (.seq (.ops [⟨.fieldAddr 0 (.t 4), (some 8), none, true⟩,
      ⟨.load none (.t 8), (some 9), none, false⟩,
      ⟨.fieldAddr 0 (.t 5), (some 10), none, true⟩,
      ⟨.load none (.t 10), (some 11), none, false⟩,
      ⟨.bin .neq (.t 9) (.t 11), (some 12), none, true⟩,
      ⟨.mov (.t 12), (some 13), none, true⟩,
      ⟨.mov (.t 0), (some 14), (some (13, false)), true⟩,
      ⟨.fieldAddr 0 (.t 4), (some 15), (some (13, false)), true⟩,
      ⟨.load none (.t 15), (some 16), (some (13, false)), false⟩,
      ⟨.qcall (.f 57) [(.t 14), (.t 16)], (some 17), (some (13, false)), false⟩,
      ⟨.un .not (.t 17), (some 18), (some (13, false)), true⟩,
      ⟨.pick (.t 13) (.c (.bool true)) (.t 18), (some 19), none, true⟩])
   (.cond (.t 19)
    (.seq (.ops [⟨.build [(.int .i64 0), (.int .i64 0)] [], (some 20), none, true⟩,
        ⟨.store 2 (.t 6) (.t 20), none, none, false⟩,
        ⟨.mov (.c (.int .i64 0)), (some 7), none, true⟩])
     (.ret))
    (.skip)))
  (.seq (.block 0 (.seq (.ops [⟨.fieldAddr 0 (.t 4), (some 22), none, true⟩,
       ⟨.load none (.t 22), (some 23), none, false⟩,
       ⟨.bin .eql (.t 23) (.c (.int .i64 2)), (some 24), none, true⟩,
       ⟨.mov (.t 24), (some 21), none, true⟩])
    (.cond (.t 21)
     (.seq (.ops [⟨.mov (.t 0), (some 25), none, true⟩,
         ⟨.load (some 2) (.t 4), (some 26), none, false⟩,
         ⟨.load (some 2) (.t 5), (some 28), none, false⟩,
         ⟨.qcall (.f 30) [(.t 26)], (some 27), none, false⟩,
         ⟨.qcall (.f 30) [(.t 28)], (some 29), none, false⟩,
         ⟨.qcall (.f 58) [(.t 25), (.t 27), (.t 29)], (some 30), none, false⟩,
         ⟨.extract (.t 30) 0, (some 31), none, true⟩,
         ⟨.extract (.t 30) 1, (some 32), none, true⟩,
         ⟨.store 2 (.t 6) (.t 31), none, none, false⟩,
         ⟨.mov (.t 32), (some 7), none, true⟩])
      (.ret))
     (.seq (.ops [⟨.mov (.t 0), (some 34), none, true⟩,
         ⟨.bin .eql (.t 34) (.c (.str [38, 38])), (some 35), none, true⟩,
         ⟨.mov (.t 35), (some 33), none, true⟩])
      (.cond (.t 33)
       (.seq (.ops [⟨.load (some 2) (.t 4), (some 36), none, false⟩,
           ⟨.qcall (.f 29) [(.t 36)], (some 37), none, false⟩,
           ⟨.mov (.t 37), (some 38), none, true⟩,
           ⟨.load (some 2) (.t 5), (some 39), (some (38, true)), false⟩,
           ⟨.qcall (.f 29) [(.t 39)], (some 40), (some (38, true)), false⟩,
           ⟨.pick (.t 38) (.t 40) (.c (.bool false)), (some 41), none, true⟩,
           ⟨.qcall (.f 36) [(.t 41)], (some 42), none, false⟩,
           ⟨.store 2 (.t 6) (.t 42), none, none, false⟩,
           ⟨.mov (.c (.int .i64 0)), (some 7), none, true⟩])
        (.ret))
       (.seq (.ops [⟨.mov (.t 0), (some 44), none, true⟩,
           ⟨.bin .eql (.t 44) (.c (.str [124, 124])), (some 45), none, true⟩,
           ⟨.mov (.t 45), (some 43), none, true⟩])
        (.cond (.t 43)
         (.seq (.ops [⟨.load (some 2) (.t 4), (some 46), none, false⟩,
             ⟨.qcall (.f 29) [(.t 46)], (some 47), none, false⟩,
             ⟨.mov (.t 47), (some 48), none, true⟩,
             ⟨.load (some 2) (.t 5), (some 49), (some (48, false)), false⟩,
             ⟨.qcall (.f 29) [(.t 49)], (some 50), (some (48, false)), false⟩,
             ⟨.pick (.t 48) (.c (.bool true)) (.t 50), (some 51), none, true⟩,
             ⟨.qcall (.f 36) [(.t 51)], (some 52), none, false⟩,
             ⟨.store 2 (.t 6) (.t 52), none, none, false⟩,
             ⟨.mov (.c (.int .i64 0)), (some 7), none, true⟩])
          (.ret))
         (.skip))))))))
  (.seq (.ops [⟨.mov (.t 0), (some 53), none, true⟩,
     ⟨.fieldAddr 1 (.t 4), (some 54), none, true⟩,
     ⟨.load none (.t 54), (some 55), none, false⟩,
     ⟨.fieldAddr 1 (.t 5), (some 56), none, true⟩,
     ⟨.load none (.t 56), (some 57), none, false⟩,
     ⟨.qcall (.f 59) [(.t 53), (.t 55), (.t 57)], (some 58), none, false⟩,
     ⟨.extract (.t 58) 0, (some 59), none, true⟩,
     ⟨.extract (.t 58) 1, (some 60), none, true⟩,
     ⟨.store 2 (.t 6) (.t 59), none, none, false⟩,
     ⟨.mov (.t 60), (some 7), none, true⟩])
  (.ret))))
theorem st26 : stmOf Try.prog 26 p26 = some (s26, [.cell 6 (some 2), .tmp 7], 61) := by kernel_rfl

def p33 : Plan := ⟨⟨[], [], [], [], [], []⟩, []⟩
/-- cupel/val.Unary (2 parameters, 0 captured) -/
def s33 : Stm :=
  .seq (.ops [⟨.box (.t 1), (some 3), none, false⟩,
     ⟨.alloc [(.int .i64 0), (.int .i64 0)], (some 4), none, false⟩])
  (.seq (.block 0 (.seq (.ops [⟨.mov (.t 0), (some 6), none, true⟩,
       ⟨.bin .eql (.t 6) (.c (.str [45])), (some 7), none, true⟩,
       ⟨.mov (.t 7), (some 8), none, true⟩,
       ⟨.fieldAddr 0 (.t 3), (some 9), (some (8, true)), true⟩,
       ⟨.load none (.t 9), (some 10), (some (8, true)), false⟩,
       ⟨.bin .eql (.t 10) (.c (.int .i64 1)), (some 11), (some (8, true)), true⟩,
       ⟨.pick (.t 8) (.t 11) (.c (.bool false)), (some 12), none, true⟩,
       ⟨.mov (.t 12), (some 5), none, true⟩])
    (.cond (.t 5)
     (.seq (.ops [⟨.fieldAddr 1 (.t 3), (some 13), none, true⟩,
         ⟨.load none (.t 13), (some 14), none, false⟩,
         ⟨.un .neg (.t 14), (some 15), none, true⟩,
         ⟨.qcall (.f 27) [(.t 15)], (some 16), none, false⟩,
         ⟨.store 2 (.t 4) (.t 16), none, none, false⟩])
      (.ret))
     (.seq (.ops [⟨.mov (.t 0), (some 18), none, true⟩,
         ⟨.bin .eql (.t 18) (.c (.str [45])), (some 19), none, true⟩,
         ⟨.mov (.t 19), (some 20), none, true⟩,
         ⟨.fieldAddr 0 (.t 3), (some 21), (some (20, true)), true⟩,
         ⟨.load none (.t 21), (some 22), (some (20, true)), false⟩,
         ⟨.bin .eql (.t 22) (.c (.int .i64 2)), (some 23), (some (20, true)), true⟩,
         ⟨.pick (.t 20) (.t 23) (.c (.bool false)), (some 24), none, true⟩,
         ⟨.mov (.t 24), (some 17), none, true⟩])
      (.cond (.t 17)
       (.seq (.ops [⟨.load (some 2) (.t 3), (some 25), none, false⟩,
           ⟨.qcall (.f 30) [(.t 25)], (some 26), none, false⟩,
           ⟨.un .neg (.t 26), (some 27), none, true⟩,
           ⟨.qcall (.f 32) [(.t 27)], (some 28), none, false⟩,
           ⟨.store 2 (.t 4) (.t 28), none, none, false⟩])
        (.ret))
       (.seq (.ops [⟨.mov (.t 0), (some 30), none, true⟩,
           ⟨.bin .eql (.t 30) (.c (.str [33])), (some 31), none, true⟩,
           ⟨.mov (.t 31), (some 32), none, true⟩,
           ⟨.fieldAddr 0 (.t 3), (some 33), (some (32, true)), true⟩,
           ⟨.load none (.t 33), (some 34), (some (32, true)), false⟩,
           ⟨.bin .eql (.t 34) (.c (.int .i64 3)), (some 35), (some (32, true)), true⟩,
           ⟨.pick (.t 32) (.t 35) (.c (.bool false)), (some 36), none, true⟩,
           ⟨.mov (.t 36), (some 29), none, true⟩])
        (.cond (.t 29)
         (.seq (.ops [⟨.load (some 2) (.t 3), (some 37), none, false⟩,
             ⟨.qcall (.f 29) [(.t 37)], (some 38), none, false⟩,
             ⟨.un .not (.t 38), (some 39), none, true⟩,
             ⟨.qcall (.f 36) [(.t 39)], (some 40), none, false⟩,
             ⟨.store 2 (.t 4) (.t 40), none, none, false⟩])
          (.ret))
         (.skip))))))))
  (.seq (.ops [⟨.build [(.int .i64 0), (.int .i64 0)] [], (some 41), none, true⟩,
     ⟨.store 2 (.t 4) (.t 41), none, none, false⟩])
  (.ret)))
theorem st33 : stmOf Try.prog 33 p33 = some (s33, [.cell 4 (some 2)], 42) := by kernel_rfl

def p37 : Plan := ⟨⟨[], [], [], [], [], []⟩, []⟩
/-- cupel/val.Zero (1 parameters, 0 captured) -/
def s37 : Stm :=
  .seq (.ops [⟨.alloc [(.int .i64 0), (.int .i64 0)], (some 2), none, false⟩])
  (.seq (.ops [⟨.mov (.t 0), (some 3), none, true⟩,
     ⟨.build [(.int .i64 0), (.int .i64 0)] [(0, 1, (.t 3))], (some 4), none, true⟩,
     ⟨.store 2 (.t 2) (.t 4), none, none, false⟩])
  (.ret))
theorem st37 : stmOf Try.prog 37 p37 = some (s37, [.cell 2 (some 2)], 5) := by kernel_rfl

def p34 : Plan := ⟨⟨[], [], [], [], [], []⟩, []⟩
/-- cupel/cupelref13.NaN (0 parameters, 0 captured) -/
def s34 : Stm :=
  .seq (.ops [⟨.mov (.c (.int .i64 0)), (some 0), none, true⟩])
  (.seq (.ops [⟨.mov (.c (.int .i64 9221120237041090561)), (some 0), none, true⟩])
  (.ret))
theorem st34 : stmOf Try.prog 34 p34 = some (s34, [.tmp 0], 1) := by kernel_rfl

def p35 : Plan := ⟨⟨[], [], [], [], [], []⟩, []⟩
/-- cupel/cupellaw13.is (2 parameters, 0 captured) -/
def s35 : Stm :=
  .seq (.ops [⟨.box (.t 0), (some 2), none, false⟩,
     ⟨.box (.t 1), (some 3), none, false⟩,
     ⟨.mov (.c (.bool false)), (some 4), none, true⟩])
  (.seq (.ops [⟨.fieldAddr 0 (.t 2), (some 5), none, true⟩,
     ⟨.load none (.t 5), (some 6), none, false⟩,
     ⟨.fieldAddr 0 (.t 3), (some 7), none, true⟩,
     ⟨.load none (.t 7), (some 8), none, false⟩,
     ⟨.bin .eql (.t 6) (.t 8), (some 9), none, true⟩,
     ⟨.mov (.t 9), (some 10), none, true⟩,
     ⟨.fieldAddr 1 (.t 2), (some 11), (some (10, true)), true⟩,
     ⟨.load none (.t 11), (some 12), (some (10, true)), false⟩,
     ⟨.fieldAddr 1 (.t 3), (some 13), (some (10, true)), true⟩,
     ⟨.load none (.t 13), (some 14), (some (10, true)), false⟩,
     ⟨.bin .eql (.t 12) (.t 14), (some 15), (some (10, true)), true⟩,
     ⟨.pick (.t 10) (.t 15) (.c (.bool false)), (some 16), none, true⟩,
     ⟨.mov (.t 16), (some 4), none, true⟩])
  (.ret))
theorem st35 : stmOf Try.prog 35 p35 = some (s35, [.tmp 4], 17) := by kernel_rfl

def p67 : Plan := ⟨⟨[], [], [], [], [], []⟩, []⟩
/-- math.Trunc (1 parameters, 0 captured) -/
def s67 : Stm :=
  .seq (.ops [⟨.mov (.c (.float .f64 0)), (some 2), none, true⟩])
  (.seq (.cond (.c (.bool true))
    (.seq (.ops [⟨.mov (.t 0), (some 3), none, true⟩,
        ⟨.qcall (.f 81) [(.t 3)], (some 4), none, false⟩,
        ⟨.mov (.t 4), (some 2), none, true⟩])
     (.ret))
    (.skip))
  (.seq (.ops [⟨.mov (.t 0), (some 5), none, true⟩,
     ⟨.qcall (.f 82) [(.t 5)], (some 6), none, false⟩,
     ⟨.mov (.t 6), (some 2), none, true⟩])
  (.ret)))
theorem st67 : stmOf Try.prog 67 p67 = some (s67, [.tmp 2], 7) := by kernel_rfl

def p42 : Plan := ⟨⟨[], [], [], [], [], []⟩, []⟩
/-- cupel/val.Conv (2 parameters, 0 captured) -/
def s42 : Stm :=
  .seq (.ops [⟨.box (.t 1), (some 3), none, false⟩,
     ⟨.alloc [(.int .i64 0), (.int .i64 0)], (some 4), none, false⟩,
     ⟨.mov (.c (.int .i64 0)), (some 5), none, true⟩])
  (.seq (.block 0 (.seq (.ops [⟨.mov (.t 0), (some 8), none, true⟩,
       ⟨.fieldAddr 0 (.t 3), (some 9), none, true⟩,
       ⟨.load none (.t 9), (some 10), none, false⟩,
       ⟨.bin .eql (.t 8) (.t 10), (some 11), none, true⟩,
       ⟨.mov (.t 11), (some 12), none, true⟩,
       ⟨.mov (.t 0), (some 13), (some (12, true)), true⟩,
       ⟨.bin .eql (.t 13) (.c (.int .i64 1)), (some 14), (some (12, true)), true⟩,
       ⟨.mov (.t 14), (some 15), (some (12, true)), true⟩,
       ⟨.mov (.t 0), (some 16), (some (15, false)), true⟩,
       ⟨.bin .eql (.t 16) (.c (.int .i64 2)), (some 17), (some (15, false)), true⟩,
       ⟨.pick (.t 15) (.c (.bool true)) (.t 17), (some 18), (some (12, true)), true⟩,
       ⟨.pick (.t 12) (.t 18) (.c (.bool false)), (some 19), none, true⟩,
       ⟨.mov (.t 19), (some 7), none, true⟩])
    (.cond (.t 7)
     (.seq (.ops [⟨.load (some 2) (.t 3), (some 20), none, false⟩,
         ⟨.store 2 (.t 4) (.t 20), none, none, false⟩,
         ⟨.mov (.c (.int .i64 0)), (some 5), none, true⟩])
      (.ret))
     (.seq (.ops [⟨.mov (.t 0), (some 22), none, true⟩,
         ⟨.bin .eql (.t 22) (.c (.int .i64 2)), (some 23), none, true⟩,
         ⟨.mov (.t 23), (some 24), none, true⟩,
         ⟨.fieldAddr 0 (.t 3), (some 25), (some (24, true)), true⟩,
         ⟨.load none (.t 25), (some 26), (some (24, true)), false⟩,
         ⟨.bin .eql (.t 26) (.c (.int .i64 1)), (some 27), (some (24, true)), true⟩,
         ⟨.pick (.t 24) (.t 27) (.c (.bool false)), (some 28), none, true⟩,
         ⟨.mov (.t 28), (some 21), none, true⟩])
      (.cond (.t 21)
       (.seq (.ops [⟨.fieldAddr 1 (.t 3), (some 29), none, true⟩,
           ⟨.load none (.t 29), (some 30), none, false⟩,
           ⟨.conv .intFloat (.t 30), (some 31), none, true⟩,
           ⟨.qcall (.f 32) [(.t 31)], (some 32), none, false⟩,
           ⟨.store 2 (.t 4) (.t 32), none, none, false⟩,
           ⟨.mov (.c (.int .i64 0)), (some 5), none, true⟩])
        (.ret))
       (.seq (.ops [⟨.mov (.t 0), (some 34), none, true⟩,
           ⟨.bin .eql (.t 34) (.c (.int .i64 1)), (some 35), none, true⟩,
           ⟨.mov (.t 35), (some 36), none, true⟩,
           ⟨.fieldAddr 0 (.t 3), (some 37), (some (36, true)), true⟩,
           ⟨.load none (.t 37), (some 38), (some (36, true)), false⟩,
           ⟨.bin .eql (.t 38) (.c (.int .i64 2)), (some 39), (some (36, true)), true⟩,
           ⟨.pick (.t 36) (.t 39) (.c (.bool false)), (some 40), none, true⟩,
           ⟨.mov (.t 40), (some 33), none, true⟩])
        (.cond (.t 33)
         (.seq (.ops [⟨.load (some 2) (.t 3), (some 41), none, false⟩,
             ⟨.qcall (.f 30) [(.t 41)], (some 42), none, false⟩,
             ⟨.qcall (.f 67) [(.t 42)], (some 43), none, false⟩,
             ⟨.mov (.t 43), (some 6), none, true⟩])
          (.seq (.seq (.ops [⟨.mov (.t 6), (some 44), none, true⟩,
              ⟨.mov (.t 6), (some 45), none, true⟩,
              ⟨.bin .neq (.t 44) (.t 45), (some 46), none, true⟩,
              ⟨.mov (.t 46), (some 47), none, true⟩,
              ⟨.mov (.t 6), (some 48), (some (47, false)), true⟩,
              ⟨.bin .geq (.t 48) (.c (.float .f64 4890909195324358656)), (some 49), (some (47, false)), true⟩,
              ⟨.pick (.t 47) (.c (.bool true)) (.t 49), (some 50), none, true⟩,
              ⟨.mov (.t 50), (some 51), none, true⟩,
              ⟨.mov (.t 6), (some 52), (some (51, false)), true⟩,
              ⟨.bin .lss (.t 52) (.c (.float .f64 14114281232179134464)), (some 53), (some (51, false)), true⟩,
              ⟨.pick (.t 51) (.c (.bool true)) (.t 53), (some 54), none, true⟩])
           (.cond (.t 54)
            (.seq (.ops [⟨.build [(.int .i64 0), (.int .i64 0)] [], (some 55), none, true⟩,
                ⟨.store 2 (.t 4) (.t 55), none, none, false⟩,
                ⟨.mov (.c (.int .i64 4)), (some 5), none, true⟩])
             (.ret))
            (.skip)))
          (.seq (.ops [⟨.mov (.t 6), (some 56), none, true⟩,
             ⟨.conv (.floatInt .i64) (.t 56), (some 57), none, true⟩,
             ⟨.qcall (.f 27) [(.t 57)], (some 58), none, false⟩,
             ⟨.store 2 (.t 4) (.t 58), none, none, false⟩,
             ⟨.mov (.c (.int .i64 0)), (some 5), none, true⟩])
          (.ret))))
         (.skip))))))))
  (.seq (.ops [⟨.build [(.int .i64 0), (.int .i64 0)] [], (some 59), none, true⟩,
     ⟨.store 2 (.t 4) (.t 59), none, none, false⟩,
     ⟨.mov (.c (.int .i64 0)), (some 5), none, true⟩])
  (.ret)))
theorem st42 : stmOf Try.prog 42 p42 = some (s42, [.cell 4 (some 2), .tmp 5], 60) := by kernel_rfl


/-- A sign's number; 13: it is none. -/
def sgnOf (s : List UInt8) : Nat :=
  if s = [43] then 0 else if s = [45] then 1 else if s = [42] then 2 else if s = [47] then 3 else if s = [60] then 4 else if s = [60, 61] then 5 else if s = [62] then 6 else if s = [62, 61] then 7
  else if s = [37] then 8 else if s = [38, 38] then 9 else if s = [124, 124] then 10 else if s = [61, 61] then 11 else if s = [33, 61] then 12 else 13
theorem sgn_cases (s : List UInt8) : s = [43] ∨ s = [45] ∨ s = [42] ∨ s = [47] ∨ s = [60] ∨ s = [60, 61] ∨ s = [62] ∨ s = [62, 61] ∨ s = [37] ∨ s = [38, 38] ∨ s = [124, 124] ∨ s = [61, 61] ∨ s = [33, 61] ∨
    (s ≠ [43] ∧ s ≠ [45] ∧ s ≠ [42] ∧ s ≠ [47] ∧ s ≠ [60] ∧ s ≠ [60, 61] ∧ s ≠ [62] ∧ s ≠ [62, 61] ∧ s ≠ [37] ∧ s ≠ [38, 38] ∧ s ≠ [124, 124] ∧ s ≠ [61, 61] ∧ s ≠ [33, 61]) := by
  by_cases h0 : s = [43]; · exact .inl h0
  by_cases h1 : s = [45]; · exact .inr (.inl h1)
  by_cases h2 : s = [42]; · exact .inr (.inr (.inl h2))
  by_cases h3 : s = [47]; · exact .inr (.inr (.inr (.inl h3)))
  by_cases h4 : s = [60]; · exact .inr (.inr (.inr (.inr (.inl h4))))
  by_cases h5 : s = [60, 61]; · exact .inr (.inr (.inr (.inr (.inr (.inl h5)))))
  by_cases h6 : s = [62]; · exact .inr (.inr (.inr (.inr (.inr (.inr (.inl h6))))))
  by_cases h7 : s = [62, 61]; · exact .inr (.inr (.inr (.inr (.inr (.inr (.inr (.inl h7)))))))
  by_cases h8 : s = [37]; · exact .inr (.inr (.inr (.inr (.inr (.inr (.inr (.inr (.inl h8))))))))
  by_cases h9 : s = [38, 38]; · exact .inr (.inr (.inr (.inr (.inr (.inr (.inr (.inr (.inr (.inl h9)))))))))
  by_cases h10 : s = [124, 124]; · exact .inr (.inr (.inr (.inr (.inr (.inr (.inr (.inr (.inr (.inr (.inl h10))))))))))
  by_cases h11 : s = [61, 61]; · exact .inr (.inr (.inr (.inr (.inr (.inr (.inr (.inr (.inr (.inr (.inr (.inl h11)))))))))))
  by_cases h12 : s = [33, 61]; · exact .inr (.inr (.inr (.inr (.inr (.inr (.inr (.inr (.inr (.inr (.inr (.inr (.inl h12))))))))))))
  exact .inr (.inr (.inr (.inr (.inr (.inr (.inr (.inr (.inr (.inr (.inr (.inr (.inr ⟨h0, h1, h2, h3, h4, h5, h6, h7, h8, h9, h10, h11, h12⟩))))))))))))
theorem sgn_facts (s : List UInt8) : (s == [43]) = decide (sgnOf s = 0) ∧ (s == [45]) = decide (sgnOf s = 1) ∧ (s == [42]) = decide (sgnOf s = 2) ∧ (s == [47]) = decide (sgnOf s = 3) ∧ (s == [60]) = decide (sgnOf s = 4) ∧ (s == [60, 61]) = decide (sgnOf s = 5) ∧
    (s == [62]) = decide (sgnOf s = 6) ∧ (s == [62, 61]) = decide (sgnOf s = 7) ∧ (s == [37]) = decide (sgnOf s = 8) ∧ (s == [38, 38]) = decide (sgnOf s = 9) ∧ (s == [124, 124]) = decide (sgnOf s = 10) ∧ (s == [61, 61]) = decide (sgnOf s = 11) ∧ (s == [33, 61]) = decide (sgnOf s = 12) ∧ sgnOf s < 14 := by
  rcases sgn_cases s with rfl | rfl | rfl | rfl | rfl | rfl | rfl | rfl | rfl | rfl | rfl | rfl | rfl | ⟨h0, h1, h2, h3, h4, h5, h6, h7, h8, h9, h10, h11, h12⟩
  all_goals try decide
  simp [sgnOf, h0, h1, h2, h3, h4, h5, h6, h7, h8, h9, h10, h11, h12]

def valD (t n : Int) : D := .agg [.int .i64 t, .int .i64 n]
theorem int_c (n : Int) : PCall Try.prog 27 [.int .i64 n] (valD 1 n) := by
  refine PCall.run (Tab.zero_ok _) st27 (by simp) fun E => ?_
  simp only [s27, valD, Int.natCast_nonneg, Nat.le_refl, Int.le_refl, List.take_succ_cons, List.take_zero, decide_true, decide_false, Bool.and_false, Bool.false_and, zz, zzN, zzF, fltEv, isArithF, ↓reduceIte, Nat.reduceEqDiff, Nat.reduceBEq, Int.reduceLT, Int.reduceLE, Int.reduceToNat, Int.reduceEq, Int.reduceAdd, Int.reduceSub, Int.reduceMul, Int.reduceNeg, Nat.reduceMul, Nat.reduceSub, Nat.reduceLeDiff, Nat.reduceLT, Int.reduceGT, Int.reduceBEq, Int.reduceBNe, reduceCtorEq, Nat.reduceAdd, Ins.map, Fr.ev, argFr, argE, binEv, intEv, shEv, strEv, unEv, Fr.mark, evRes, tup, lenD, lookupD, loadD, partD, storeD, cellsD, cellOk, setAt, objNe, objSame, eqEv, readEv, buildD, buildRows, rowsOf, elemsOf]
def q27 : List D → Option D
  | [.int .i64 n] => if True then some (valD 1 n) else none
  | _ => none
theorem q27_ok (args : List D) (d : D) (h : q27 args = some d) : PCall Try.prog 27 args d := by
  unfold q27 at h
  split at h
  · split at h
    · cases h; exact int_c _
    · cases h
  · cases h

theorem ext31 : extOk Try.prog 31 "math.Float64frombits" = true := by kernel_rfl
theorem ext61 : extOk Try.prog 61 "math.Float64bits" = true := by kernel_rfl
theorem ext81 : extOk Try.prog 81 "math.archTrunc" = true := by kernel_rfl
def tb27 : Tab := Tab.zero.addQ 27 q27
theorem tb27_q (g : FuncId) (args : List D) : tb27.q g args = if g = 27 then q27 args else Tab.zero.q g args := rfl
theorem tb27_a : tb27.a = Tab.zero.a := rfl
theorem tb27_c : tb27.c = Tab.zero.c := rfl
theorem tb27_ok : tb27.ok Try.prog := Tab.addQ_ok (Tab.zero_ok _) q27_ok
theorem tb27_e : type_of% (And.intro @tb27_q (And.intro @tb27_a @tb27_c)) := (And.intro @tb27_q (And.intro @tb27_a @tb27_c))

def tb31 : Tab := tb27.addQ 31 xFrom
theorem tb31_q (g : FuncId) (args : List D) : tb31.q g args = if g = 31 then xFrom args else tb27.q g args := rfl
theorem tb31_a : tb31.a = tb27.a := rfl
theorem tb31_c : tb31.c = tb27.c := rfl
theorem tb31_ok : tb31.ok Try.prog := Tab.addX_ok tb27_ok (xFrom_ok ext31)
theorem tb31_e : type_of% (And.intro (And.intro @tb31_q (And.intro @tb31_a @tb31_c)) @tb27_e) := (And.intro (And.intro @tb31_q (And.intro @tb31_a @tb31_c)) @tb27_e)

def tb61 : Tab := tb31.addQ 61 xBits
theorem tb61_q (g : FuncId) (args : List D) : tb61.q g args = if g = 61 then xBits args else tb31.q g args := rfl
theorem tb61_a : tb61.a = tb31.a := rfl
theorem tb61_c : tb61.c = tb31.c := rfl
theorem tb61_ok : tb61.ok Try.prog := Tab.addX_ok tb31_ok (xBits_ok ext61)
theorem tb61_e : type_of% (And.intro (And.intro @tb61_q (And.intro @tb61_a @tb61_c)) @tb31_e) := (And.intro (And.intro @tb61_q (And.intro @tb61_a @tb61_c)) @tb31_e)

def nanB : Nat := 9221120237041090561
theorem nan_c : PCall Try.prog 60 [] (.float .f64 nanB) := by
  refine PCall.run tb61_ok st60 (by simp) fun E => ?_
  simp only [s60, xFrom, nanB, tb61_e, Int.natCast_nonneg, Nat.le_refl, Int.le_refl, List.take_succ_cons, List.take_zero, decide_true, decide_false, Bool.and_false, Bool.false_and, zz, zzN, zzF, fltEv, isArithF, ↓reduceIte, Nat.reduceEqDiff, Nat.reduceBEq, Int.reduceLT, Int.reduceLE, Int.reduceToNat, Int.reduceEq, Int.reduceAdd, Int.reduceSub, Int.reduceMul, Int.reduceNeg, Nat.reduceMul, Nat.reduceSub, Nat.reduceLeDiff, Nat.reduceLT, Int.reduceGT, Int.reduceBEq, Int.reduceBNe, reduceCtorEq, Nat.reduceAdd, Ins.map, Fr.ev, argFr, argE, binEv, intEv, shEv, strEv, unEv, Fr.mark, evRes, tup, lenD, lookupD, loadD, partD, storeD, cellsD, cellOk, setAt, objNe, objSame, eqEv, readEv, buildD, buildRows, rowsOf, elemsOf]
def q60 : List D → Option D
  | [] => if True then some (.float .f64 nanB) else none
  | _ => none
theorem q60_ok (args : List D) (d : D) (h : q60 args = some d) : PCall Try.prog 60 args d := by
  unfold q60 at h
  split at h
  · split at h
    · cases h; exact nan_c
    · cases h
  · cases h

def tb60 : Tab := tb61.addQ 60 q60
theorem tb60_q (g : FuncId) (args : List D) : tb60.q g args = if g = 60 then q60 args else tb61.q g args := rfl
theorem tb60_a : tb60.a = tb61.a := rfl
theorem tb60_c : tb60.c = tb61.c := rfl
theorem tb60_ok : tb60.ok Try.prog := Tab.addQ_ok tb61_ok q60_ok
theorem tb60_e : type_of% (And.intro (And.intro @tb60_q (And.intro @tb60_a @tb60_c)) @tb61_e) := (And.intro (And.intro @tb60_q (And.intro @tb60_a @tb60_c)) @tb61_e)

/-- Bits, but of what is no number these alone. -/
def canon (b : Nat) : Nat := if FloatKind.f64.format.order b b == some .eq then b else nanB
theorem float_c (b : Nat) : PCall Try.prog 32 [.float .f64 b] (valD 2 (IntKind.i64.wrap (canon b))) := by
  refine PCall.run tb60_ok st32 (by simp) fun E => ?_
  cases h : (FloatKind.f64.format.order b b == some .eq) with
  | true =>
    have h2 : (FloatKind.f64.format.order b b != some .eq) = false := by rw [bne, h]; rfl
    simp only [s32, h, h2, q60, xBits, canon, valD, tb60_e, Int.natCast_nonneg, Nat.le_refl, Int.le_refl, List.take_succ_cons, List.take_zero, decide_true, decide_false, Bool.and_false, Bool.false_and, zz, zzN, zzF, fltEv, isArithF, ↓reduceIte, Nat.reduceEqDiff, Nat.reduceBEq, Int.reduceLT, Int.reduceLE, Int.reduceToNat, Int.reduceEq, Int.reduceAdd, Int.reduceSub, Int.reduceMul, Int.reduceNeg, Nat.reduceMul, Nat.reduceSub, Nat.reduceLeDiff, Nat.reduceLT, Int.reduceGT, Int.reduceBEq, Int.reduceBNe, reduceCtorEq, Nat.reduceAdd, Ins.map, Fr.ev, argFr, argE, binEv, intEv, shEv, strEv, unEv, Fr.mark, evRes, tup, lenD, lookupD, loadD, partD, storeD, cellsD, cellOk, setAt, objNe, objSame, eqEv, readEv, buildD, buildRows, rowsOf, elemsOf]
  | false =>
    have h2 : (FloatKind.f64.format.order b b != some .eq) = true := by rw [bne, h]; rfl
    simp only [s32, h, h2, q60, xBits, canon, valD, tb60_e, Int.natCast_nonneg, Nat.le_refl, Int.le_refl, List.take_succ_cons, List.take_zero, decide_true, decide_false, Bool.and_false, Bool.false_and, zz, zzN, zzF, fltEv, isArithF, ↓reduceIte, Nat.reduceEqDiff, Nat.reduceBEq, Int.reduceLT, Int.reduceLE, Int.reduceToNat, Int.reduceEq, Int.reduceAdd, Int.reduceSub, Int.reduceMul, Int.reduceNeg, Nat.reduceMul, Nat.reduceSub, Nat.reduceLeDiff, Nat.reduceLT, Int.reduceGT, Int.reduceBEq, Int.reduceBNe, reduceCtorEq, Nat.reduceAdd, Ins.map, Fr.ev, argFr, argE, binEv, intEv, shEv, strEv, unEv, Fr.mark, evRes, tup, lenD, lookupD, loadD, partD, storeD, cellsD, cellOk, setAt, objNe, objSame, eqEv, readEv, buildD, buildRows, rowsOf, elemsOf]
def q32 : List D → Option D
  | [.float .f64 b] => if True then some (valD 2 (IntKind.i64.wrap (canon b))) else none
  | _ => none
theorem q32_ok (args : List D) (d : D) (h : q32 args = some d) : PCall Try.prog 32 args d := by
  unfold q32 at h
  split at h
  · split at h
    · cases h; exact float_c _
    · cases h
  · cases h

def tb32 : Tab := tb60.addQ 32 q32
theorem tb32_q (g : FuncId) (args : List D) : tb32.q g args = if g = 32 then q32 args else tb60.q g args := rfl
theorem tb32_a : tb32.a = tb60.a := rfl
theorem tb32_c : tb32.c = tb60.c := rfl
theorem tb32_ok : tb32.ok Try.prog := Tab.addQ_ok tb60_ok q32_ok
theorem tb32_e : type_of% (And.intro (And.intro @tb32_q (And.intro @tb32_a @tb32_c)) @tb60_e) := (And.intro (And.intro @tb32_q (And.intro @tb32_a @tb32_c)) @tb60_e)

/-- A value's bits. -/
def bitsOf (n : Int) : Nat := (IntKind.u64.wrap n).toNat
theorem of_c (t n : Int) : PCall Try.prog 30 [valD t n] (.float .f64 (bitsOf n)) := by
  refine PCall.run tb32_ok st30 (by simp) fun E => ?_
  simp only [s30, xFrom, bitsOf, valD, tb32_e, Int.natCast_nonneg, Nat.le_refl, Int.le_refl, List.take_succ_cons, List.take_zero, decide_true, decide_false, Bool.and_false, Bool.false_and, zz, zzN, zzF, fltEv, isArithF, ↓reduceIte, Nat.reduceEqDiff, Nat.reduceBEq, Int.reduceLT, Int.reduceLE, Int.reduceToNat, Int.reduceEq, Int.reduceAdd, Int.reduceSub, Int.reduceMul, Int.reduceNeg, Nat.reduceMul, Nat.reduceSub, Nat.reduceLeDiff, Nat.reduceLT, Int.reduceGT, Int.reduceBEq, Int.reduceBNe, reduceCtorEq, Nat.reduceAdd, Ins.map, Fr.ev, argFr, argE, binEv, intEv, shEv, strEv, unEv, Fr.mark, evRes, tup, lenD, lookupD, loadD, partD, storeD, cellsD, cellOk, setAt, objNe, objSame, eqEv, readEv, buildD, buildRows, rowsOf, elemsOf]
def q30 : List D → Option D
  | [.agg [.int .i64 t, .int .i64 n]] => if True then some (.float .f64 (bitsOf n)) else none
  | _ => none
theorem q30_ok (args : List D) (d : D) (h : q30 args = some d) : PCall Try.prog 30 args d := by
  unfold q30 at h
  split at h
  · split at h
    · cases h; exact of_c _ _
    · cases h
  · cases h

def tb30 : Tab := tb32.addQ 30 q30
theorem tb30_q (g : FuncId) (args : List D) : tb30.q g args = if g = 30 then q30 args else tb32.q g args := rfl
theorem tb30_a : tb30.a = tb32.a := rfl
theorem tb30_c : tb30.c = tb32.c := rfl
theorem tb30_ok : tb30.ok Try.prog := Tab.addQ_ok tb32_ok q30_ok
theorem tb30_e : type_of% (And.intro (And.intro @tb30_q (And.intro @tb30_a @tb30_c)) @tb32_e) := (And.intro (And.intro @tb30_q (And.intro @tb30_a @tb30_c)) @tb32_e)

def boolN (b : Bool) : Int := if b then 1 else 0
theorem bool_c (b : Bool) : PCall Try.prog 36 [.bool b] (valD 3 (boolN b)) := by
  refine PCall.run tb30_ok st36 (by simp) fun E => ?_
  cases b <;> simp only [s36, boolN, valD, tb30_e, Int.natCast_nonneg, Nat.le_refl, Int.le_refl, List.take_succ_cons, List.take_zero, decide_true, decide_false, Bool.and_false, Bool.false_and, zz, zzN, zzF, fltEv, isArithF, ↓reduceIte, Nat.reduceEqDiff, Nat.reduceBEq, Int.reduceLT, Int.reduceLE, Int.reduceToNat, Int.reduceEq, Int.reduceAdd, Int.reduceSub, Int.reduceMul, Int.reduceNeg, Nat.reduceMul, Nat.reduceSub, Nat.reduceLeDiff, Nat.reduceLT, Int.reduceGT, Int.reduceBEq, Int.reduceBNe, reduceCtorEq, Nat.reduceAdd, Ins.map, Fr.ev, argFr, argE, binEv, intEv, shEv, strEv, unEv, Fr.mark, evRes, tup, lenD, lookupD, loadD, partD, storeD, cellsD, cellOk, setAt, objNe, objSame, eqEv, readEv, buildD, buildRows, rowsOf, elemsOf]
def q36 : List D → Option D
  | [.bool b] => if True then some (valD 3 (boolN b)) else none
  | _ => none
theorem q36_ok (args : List D) (d : D) (h : q36 args = some d) : PCall Try.prog 36 args d := by
  unfold q36 at h
  split at h
  · split at h
    · cases h; exact bool_c _
    · cases h
  · cases h

def tb36 : Tab := tb30.addQ 36 q36
theorem tb36_q (g : FuncId) (args : List D) : tb36.q g args = if g = 36 then q36 args else tb30.q g args := rfl
theorem tb36_a : tb36.a = tb30.a := rfl
theorem tb36_c : tb36.c = tb30.c := rfl
theorem tb36_ok : tb36.ok Try.prog := Tab.addQ_ok tb30_ok q36_ok
theorem tb36_e : type_of% (And.intro (And.intro @tb36_q (And.intro @tb36_a @tb36_c)) @tb30_e) := (And.intro (And.intro @tb36_q (And.intro @tb36_a @tb36_c)) @tb30_e)

def trueV (t n : Int) : Bool := t == 3 && n != 0
theorem true_c (t n : Int) : PCall Try.prog 29 [valD t n] (.bool (trueV t n)) := by
  refine PCall.run tb36_ok st29 (by simp) fun E => ?_
  cases h : (t == 3) <;> simp only [s29, h, trueV, valD, tb36_e, Int.natCast_nonneg, Nat.le_refl, Int.le_refl, List.take_succ_cons, List.take_zero, decide_true, decide_false, Bool.and_false, Bool.false_and, zz, zzN, zzF, fltEv, isArithF, ↓reduceIte, Nat.reduceEqDiff, Nat.reduceBEq, Int.reduceLT, Int.reduceLE, Int.reduceToNat, Int.reduceEq, Int.reduceAdd, Int.reduceSub, Int.reduceMul, Int.reduceNeg, Nat.reduceMul, Nat.reduceSub, Nat.reduceLeDiff, Nat.reduceLT, Int.reduceGT, Int.reduceBEq, Int.reduceBNe, reduceCtorEq, Nat.reduceAdd, Ins.map, Fr.ev, argFr, argE, binEv, intEv, shEv, strEv, unEv, Fr.mark, evRes, tup, lenD, lookupD, loadD, partD, storeD, cellsD, cellOk, setAt, objNe, objSame, eqEv, readEv, buildD, buildRows, rowsOf, elemsOf]
def q29 : List D → Option D
  | [.agg [.int .i64 t, .int .i64 n]] => if True then some (.bool (trueV t n)) else none
  | _ => none
theorem q29_ok (args : List D) (d : D) (h : q29 args = some d) : PCall Try.prog 29 args d := by
  unfold q29 at h
  split at h
  · split at h
    · cases h; exact true_c _ _
    · cases h
  · cases h

def tb29 : Tab := tb36.addQ 29 q29
theorem tb29_q (g : FuncId) (args : List D) : tb29.q g args = if g = 29 then q29 args else tb36.q g args := rfl
theorem tb29_a : tb29.a = tb36.a := rfl
theorem tb29_c : tb29.c = tb36.c := rfl
theorem tb29_ok : tb29.ok Try.prog := Tab.addQ_ok tb36_ok q29_ok
theorem tb29_e : type_of% (And.intro (And.intro @tb29_q (And.intro @tb29_a @tb29_c)) @tb36_e) := (And.intro (And.intro @tb29_q (And.intro @tb29_a @tb29_c)) @tb36_e)

/-- May a sign stand between two of a type? -/
def knownK (k : Nat) (t : Int) : Bool := if k < 8 then t == 1 || t == 2 else if k = 8 then t == 1 else if k < 11 then t == 3 else if k < 13 then decide (t ≥ 1) && decide (t ≤ 3) else false
theorem known_c (s : List UInt8) (t : Int) : PCall Try.prog 57 [.str s, .int .i64 t] (.bool (knownK (sgnOf s) t)) := by
  refine PCall.run tb29_ok st57 (by simp) fun E => ?_
  obtain ⟨sg0, sg1, sg2, sg3, sg4, sg5, sg6, sg7, sg8, sg9, sg10, sg11, sg12, sg⟩ := sgn_facts s
  generalize sgnOf s = k at *
  have : k = 0 ∨ k = 1 ∨ k = 2 ∨ k = 3 ∨ k = 4 ∨ k = 5 ∨ k = 6 ∨ k = 7 ∨ k = 8 ∨ k = 9 ∨ k = 10 ∨ k = 11 ∨ k = 12 ∨ k = 13 := by omega
  cases h1 : (t == 1) <;> rcases this with rfl | rfl | rfl | rfl | rfl | rfl | rfl | rfl | rfl | rfl | rfl | rfl | rfl | rfl <;>
    simp only [s57, sg0, sg1, sg2, sg3, sg4, sg5, sg6, sg7, sg8, sg9, sg10, sg11, sg12, strEv, knownK, h1, tb29_e, Int.natCast_nonneg, Nat.le_refl, Int.le_refl, List.take_succ_cons, List.take_zero, decide_true, decide_false, Bool.and_false, Bool.false_and, zz, zzN, zzF, fltEv, isArithF, ↓reduceIte, Nat.reduceEqDiff, Nat.reduceBEq, Int.reduceLT, Int.reduceLE, Int.reduceToNat, Int.reduceEq, Int.reduceAdd, Int.reduceSub, Int.reduceMul, Int.reduceNeg, Nat.reduceMul, Nat.reduceSub, Nat.reduceLeDiff, Nat.reduceLT, Int.reduceGT, Int.reduceBEq, Int.reduceBNe, reduceCtorEq, Nat.reduceAdd, Ins.map, Fr.ev, argFr, argE, binEv, intEv, shEv, strEv, unEv, Fr.mark, evRes, tup, lenD, lookupD, loadD, partD, storeD, cellsD, cellOk, setAt, objNe, objSame, eqEv, readEv, buildD, buildRows, rowsOf, elemsOf]
  all_goals first | (simp; done) | (simp only [or_self]; split <;> simp_all <;> omega)
def q57 : List D → Option D
  | [.str s, .int .i64 t] => if True then some (.bool (knownK (sgnOf s) t)) else none
  | _ => none
theorem q57_ok (args : List D) (d : D) (h : q57 args = some d) : PCall Try.prog 57 args d := by
  unfold q57 at h
  split at h
  · split at h
    · cases h; exact known_c _ _
    · cases h
  · cases h

def tb57 : Tab := tb29.addQ 57 q57
theorem tb57_q (g : FuncId) (args : List D) : tb57.q g args = if g = 57 then q57 args else tb29.q g args := rfl
theorem tb57_a : tb57.a = tb29.a := rfl
theorem tb57_c : tb57.c = tb29.c := rfl
theorem tb57_ok : tb57.ok Try.prog := Tab.addQ_ok tb29_ok q57_ok
theorem tb57_e : type_of% (And.intro (And.intro @tb57_q (And.intro @tb57_a @tb57_c)) @tb29_e) := (And.intro (And.intro @tb57_q (And.intro @tb57_a @tb57_c)) @tb29_e)

/-- A sign between two whole numbers: the value, what goes wrong. -/
def intsK (k : Nat) (a b : Int) : (Int × Int) × Int :=
  match k with
  | 0 => ((1, IntKind.i64.wrap (a + b)), 0)
  | 1 => ((1, IntKind.i64.wrap (a - b)), 0)
  | 2 => ((1, IntKind.i64.wrap (a * b)), 0)
  | 3 => if b == 0 then ((0, 0), 3) else ((1, IntKind.i64.wrap (a.tdiv b)), 0)
  | 8 => if b == 0 then ((0, 0), 3) else ((1, a.tmod b), 0)
  | 4 => ((3, boolN (decide (a < b))), 0)
  | 5 => ((3, boolN (decide (a ≤ b))), 0)
  | 6 => ((3, boolN (decide (a > b))), 0)
  | 7 => ((3, boolN (decide (a ≥ b))), 0)
  | 11 => ((3, boolN (a == b)), 0)
  | _ => ((3, boolN (a != b)), 0)
def resD (r : (Int × Int) × Int) : D := .tuple [valD r.1.1 r.1.2, .int .i64 r.2]
theorem ints_c (s : List UInt8) (a b : Int) : PCall Try.prog 59 [.str s, .int .i64 a, .int .i64 b] (resD (intsK (sgnOf s) a b)) := by
  refine PCall.run tb57_ok st59 (by simp) fun E => ?_
  obtain ⟨sg0, sg1, sg2, sg3, sg4, sg5, sg6, sg7, sg8, sg9, sg10, sg11, sg12, sg⟩ := sgn_facts s
  generalize sgnOf s = k at *
  have : k = 0 ∨ k = 1 ∨ k = 2 ∨ k = 3 ∨ k = 4 ∨ k = 5 ∨ k = 6 ∨ k = 7 ∨ k = 8 ∨ k = 9 ∨ k = 10 ∨ k = 11 ∨ k = 12 ∨ k = 13 := by omega
  cases h1 : (b == 0) <;> rcases this with rfl | rfl | rfl | rfl | rfl | rfl | rfl | rfl | rfl | rfl | rfl | rfl | rfl | rfl <;>
    simp only [s59, sg0, sg1, sg2, sg3, sg4, sg5, sg6, sg7, sg8, sg9, sg10, sg11, sg12, strEv, intsK, h1, q27, q36, resD, valD, tb57_e, Int.natCast_nonneg, Nat.le_refl, Int.le_refl, List.take_succ_cons, List.take_zero, decide_true, decide_false, Bool.and_false, Bool.false_and, zz, zzN, zzF, fltEv, isArithF, ↓reduceIte, Nat.reduceEqDiff, Nat.reduceBEq, Int.reduceLT, Int.reduceLE, Int.reduceToNat, Int.reduceEq, Int.reduceAdd, Int.reduceSub, Int.reduceMul, Int.reduceNeg, Nat.reduceMul, Nat.reduceSub, Nat.reduceLeDiff, Nat.reduceLT, Int.reduceGT, Int.reduceBEq, Int.reduceBNe, reduceCtorEq, Nat.reduceAdd, Ins.map, Fr.ev, argFr, argE, binEv, intEv, shEv, strEv, unEv, Fr.mark, evRes, tup, lenD, lookupD, loadD, partD, storeD, cellsD, cellOk, setAt, objNe, objSame, eqEv, readEv, buildD, buildRows, rowsOf, elemsOf]
  all_goals simpa using h1
def q59 : List D → Option D
  | [.str s, .int .i64 a, .int .i64 b] => if True then some (resD (intsK (sgnOf s) a b)) else none
  | _ => none
theorem q59_ok (args : List D) (d : D) (h : q59 args = some d) : PCall Try.prog 59 args d := by
  unfold q59 at h
  split at h
  · split at h
    · cases h; exact ints_c _ _ _
    · cases h
  · cases h

def tb59 : Tab := tb57.addQ 59 q59
theorem tb59_q (g : FuncId) (args : List D) : tb59.q g args = if g = 59 then q59 args else tb57.q g args := rfl
theorem tb59_a : tb59.a = tb57.a := rfl
theorem tb59_c : tb59.c = tb57.c := rfl
theorem tb59_ok : tb59.ok Try.prog := Tab.addQ_ok tb57_ok q59_ok
theorem tb59_e : type_of% (And.intro (And.intro @tb59_q (And.intro @tb59_a @tb59_c)) @tb57_e) := (And.intro (And.intro @tb59_q (And.intro @tb59_a @tb59_c)) @tb57_e)

/-- A result of reckoning, as a value. -/
def fltN (o : Option Nat) : Int := IntKind.i64.wrap ((match o with | some r => canon r | none => nanB : Nat) : Int)
def ordB (k : Nat) (o : Option Ordering) : Bool :=
  match k with
  | 4 => o == some .lt
  | 5 => o == some .lt || o == some .eq
  | 6 => o == some .gt
  | 7 => o == some .gt || o == some .eq
  | 11 => o == some .eq
  | _ => o != some .eq
def floatsK (k : Nat) (a b : Nat) : (Int × Int) × Int :=
  match k with
  | 0 => ((2, fltN (floatBits .add .f64 a b)), 0)
  | 1 => ((2, fltN (floatBits .sub .f64 a b)), 0)
  | 2 => ((2, fltN (floatBits .mul .f64 a b)), 0)
  | 3 => ((2, fltN (floatBits .quo .f64 a b)), 0)
  | k => ((3, boolN (ordB k (FloatKind.f64.format.order a b))), 0)
theorem canon_nan {r : Nat} (h : FloatKind.f64.format.order r r = none) : canon r = nanB := by simp [canon, h]
theorem floats_c (s : List UInt8) (a b : Nat) : PCall Try.prog 58 [.str s, .float .f64 a, .float .f64 b] (resD (floatsK (sgnOf s) a b)) := by
  refine PCall.run tb57_ok st58 (by simp) fun E => ?_
  obtain ⟨sg0, sg1, sg2, sg3, sg4, sg5, sg6, sg7, sg8, sg9, sg10, sg11, sg12, sg⟩ := sgn_facts s
  generalize sgnOf s = k at *
  have : k = 0 ∨ k = 1 ∨ k = 2 ∨ k = 3 ∨ k = 4 ∨ k = 5 ∨ k = 6 ∨ k = 7 ∨ k = 8 ∨ k = 9 ∨ k = 10 ∨ k = 11 ∨ k = 12 ∨ k = 13 := by omega
  rcases this with rfl | rfl | rfl | rfl | rfl | rfl | rfl | rfl | rfl | rfl | rfl | rfl | rfl | rfl
  · cases hf : floatBits .add .f64 a b with
    | some r => simp only [s58, sg0, sg1, sg2, sg3, sg4, sg5, sg6, sg7, sg8, sg9, sg10, sg11, sg12, hf, fltN, strEv, floatsK, ordB, q32, q36, resD, valD, tb59_e, Int.natCast_nonneg, Nat.le_refl, Int.le_refl, List.take_succ_cons, List.take_zero, decide_true, decide_false, Bool.and_false, Bool.false_and, zz, zzN, zzF, fltEv, isArithF, ↓reduceIte, Nat.reduceEqDiff, Nat.reduceBEq, Int.reduceLT, Int.reduceLE, Int.reduceToNat, Int.reduceEq, Int.reduceAdd, Int.reduceSub, Int.reduceMul, Int.reduceNeg, Nat.reduceMul, Nat.reduceSub, Nat.reduceLeDiff, Nat.reduceLT, Int.reduceGT, Int.reduceBEq, Int.reduceBNe, reduceCtorEq, Nat.reduceAdd, Ins.map, Fr.ev, argFr, argE, binEv, intEv, shEv, strEv, unEv, Fr.mark, evRes, tup, lenD, lookupD, loadD, partD, storeD, cellsD, cellOk, setAt, objNe, objSame, eqEv, readEv, buildD, buildRows, rowsOf, elemsOf]
    | none =>
      simp only [s58, sg0, sg1, sg2, sg3, sg4, sg5, sg6, sg7, sg8, sg9, sg10, sg11, sg12, hf, fltN, strEv, floatsK, ordB, q32, q36, resD, valD, tb59_e, Int.natCast_nonneg, Nat.le_refl, Int.le_refl, List.take_succ_cons, List.take_zero, decide_true, decide_false, Bool.and_false, Bool.false_and, zz, zzN, zzF, fltEv, isArithF, ↓reduceIte, Nat.reduceEqDiff, Nat.reduceBEq, Int.reduceLT, Int.reduceLE, Int.reduceToNat, Int.reduceEq, Int.reduceAdd, Int.reduceSub, Int.reduceMul, Int.reduceNeg, Nat.reduceMul, Nat.reduceSub, Nat.reduceLeDiff, Nat.reduceLT, Int.reduceGT, Int.reduceBEq, Int.reduceBNe, reduceCtorEq, Nat.reduceAdd, Ins.map, Fr.ev, argFr, argE, binEv, intEv, shEv, strEv, unEv, Fr.mark, evRes, tup, lenD, lookupD, loadD, partD, storeD, cellsD, cellOk, setAt, objNe, objSame, eqEv, readEv, buildD, buildRows, rowsOf, elemsOf]
      intro r hr
      simp only [canon_nan hr, or_self]
  · cases hf : floatBits .sub .f64 a b with
    | some r => simp only [s58, sg0, sg1, sg2, sg3, sg4, sg5, sg6, sg7, sg8, sg9, sg10, sg11, sg12, hf, fltN, strEv, floatsK, ordB, q32, q36, resD, valD, tb59_e, Int.natCast_nonneg, Nat.le_refl, Int.le_refl, List.take_succ_cons, List.take_zero, decide_true, decide_false, Bool.and_false, Bool.false_and, zz, zzN, zzF, fltEv, isArithF, ↓reduceIte, Nat.reduceEqDiff, Nat.reduceBEq, Int.reduceLT, Int.reduceLE, Int.reduceToNat, Int.reduceEq, Int.reduceAdd, Int.reduceSub, Int.reduceMul, Int.reduceNeg, Nat.reduceMul, Nat.reduceSub, Nat.reduceLeDiff, Nat.reduceLT, Int.reduceGT, Int.reduceBEq, Int.reduceBNe, reduceCtorEq, Nat.reduceAdd, Ins.map, Fr.ev, argFr, argE, binEv, intEv, shEv, strEv, unEv, Fr.mark, evRes, tup, lenD, lookupD, loadD, partD, storeD, cellsD, cellOk, setAt, objNe, objSame, eqEv, readEv, buildD, buildRows, rowsOf, elemsOf]
    | none =>
      simp only [s58, sg0, sg1, sg2, sg3, sg4, sg5, sg6, sg7, sg8, sg9, sg10, sg11, sg12, hf, fltN, strEv, floatsK, ordB, q32, q36, resD, valD, tb59_e, Int.natCast_nonneg, Nat.le_refl, Int.le_refl, List.take_succ_cons, List.take_zero, decide_true, decide_false, Bool.and_false, Bool.false_and, zz, zzN, zzF, fltEv, isArithF, ↓reduceIte, Nat.reduceEqDiff, Nat.reduceBEq, Int.reduceLT, Int.reduceLE, Int.reduceToNat, Int.reduceEq, Int.reduceAdd, Int.reduceSub, Int.reduceMul, Int.reduceNeg, Nat.reduceMul, Nat.reduceSub, Nat.reduceLeDiff, Nat.reduceLT, Int.reduceGT, Int.reduceBEq, Int.reduceBNe, reduceCtorEq, Nat.reduceAdd, Ins.map, Fr.ev, argFr, argE, binEv, intEv, shEv, strEv, unEv, Fr.mark, evRes, tup, lenD, lookupD, loadD, partD, storeD, cellsD, cellOk, setAt, objNe, objSame, eqEv, readEv, buildD, buildRows, rowsOf, elemsOf]
      intro r hr
      simp only [canon_nan hr, or_self]
  · cases hf : floatBits .mul .f64 a b with
    | some r => simp only [s58, sg0, sg1, sg2, sg3, sg4, sg5, sg6, sg7, sg8, sg9, sg10, sg11, sg12, hf, fltN, strEv, floatsK, ordB, q32, q36, resD, valD, tb59_e, Int.natCast_nonneg, Nat.le_refl, Int.le_refl, List.take_succ_cons, List.take_zero, decide_true, decide_false, Bool.and_false, Bool.false_and, zz, zzN, zzF, fltEv, isArithF, ↓reduceIte, Nat.reduceEqDiff, Nat.reduceBEq, Int.reduceLT, Int.reduceLE, Int.reduceToNat, Int.reduceEq, Int.reduceAdd, Int.reduceSub, Int.reduceMul, Int.reduceNeg, Nat.reduceMul, Nat.reduceSub, Nat.reduceLeDiff, Nat.reduceLT, Int.reduceGT, Int.reduceBEq, Int.reduceBNe, reduceCtorEq, Nat.reduceAdd, Ins.map, Fr.ev, argFr, argE, binEv, intEv, shEv, strEv, unEv, Fr.mark, evRes, tup, lenD, lookupD, loadD, partD, storeD, cellsD, cellOk, setAt, objNe, objSame, eqEv, readEv, buildD, buildRows, rowsOf, elemsOf]
    | none =>
      simp only [s58, sg0, sg1, sg2, sg3, sg4, sg5, sg6, sg7, sg8, sg9, sg10, sg11, sg12, hf, fltN, strEv, floatsK, ordB, q32, q36, resD, valD, tb59_e, Int.natCast_nonneg, Nat.le_refl, Int.le_refl, List.take_succ_cons, List.take_zero, decide_true, decide_false, Bool.and_false, Bool.false_and, zz, zzN, zzF, fltEv, isArithF, ↓reduceIte, Nat.reduceEqDiff, Nat.reduceBEq, Int.reduceLT, Int.reduceLE, Int.reduceToNat, Int.reduceEq, Int.reduceAdd, Int.reduceSub, Int.reduceMul, Int.reduceNeg, Nat.reduceMul, Nat.reduceSub, Nat.reduceLeDiff, Nat.reduceLT, Int.reduceGT, Int.reduceBEq, Int.reduceBNe, reduceCtorEq, Nat.reduceAdd, Ins.map, Fr.ev, argFr, argE, binEv, intEv, shEv, strEv, unEv, Fr.mark, evRes, tup, lenD, lookupD, loadD, partD, storeD, cellsD, cellOk, setAt, objNe, objSame, eqEv, readEv, buildD, buildRows, rowsOf, elemsOf]
      intro r hr
      simp only [canon_nan hr, or_self]
  · cases hf : floatBits .quo .f64 a b with
    | some r => simp only [s58, sg0, sg1, sg2, sg3, sg4, sg5, sg6, sg7, sg8, sg9, sg10, sg11, sg12, hf, fltN, strEv, floatsK, ordB, q32, q36, resD, valD, tb59_e, Int.natCast_nonneg, Nat.le_refl, Int.le_refl, List.take_succ_cons, List.take_zero, decide_true, decide_false, Bool.and_false, Bool.false_and, zz, zzN, zzF, fltEv, isArithF, ↓reduceIte, Nat.reduceEqDiff, Nat.reduceBEq, Int.reduceLT, Int.reduceLE, Int.reduceToNat, Int.reduceEq, Int.reduceAdd, Int.reduceSub, Int.reduceMul, Int.reduceNeg, Nat.reduceMul, Nat.reduceSub, Nat.reduceLeDiff, Nat.reduceLT, Int.reduceGT, Int.reduceBEq, Int.reduceBNe, reduceCtorEq, Nat.reduceAdd, Ins.map, Fr.ev, argFr, argE, binEv, intEv, shEv, strEv, unEv, Fr.mark, evRes, tup, lenD, lookupD, loadD, partD, storeD, cellsD, cellOk, setAt, objNe, objSame, eqEv, readEv, buildD, buildRows, rowsOf, elemsOf]
    | none =>
      simp only [s58, sg0, sg1, sg2, sg3, sg4, sg5, sg6, sg7, sg8, sg9, sg10, sg11, sg12, hf, fltN, strEv, floatsK, ordB, q32, q36, resD, valD, tb59_e, Int.natCast_nonneg, Nat.le_refl, Int.le_refl, List.take_succ_cons, List.take_zero, decide_true, decide_false, Bool.and_false, Bool.false_and, zz, zzN, zzF, fltEv, isArithF, ↓reduceIte, Nat.reduceEqDiff, Nat.reduceBEq, Int.reduceLT, Int.reduceLE, Int.reduceToNat, Int.reduceEq, Int.reduceAdd, Int.reduceSub, Int.reduceMul, Int.reduceNeg, Nat.reduceMul, Nat.reduceSub, Nat.reduceLeDiff, Nat.reduceLT, Int.reduceGT, Int.reduceBEq, Int.reduceBNe, reduceCtorEq, Nat.reduceAdd, Ins.map, Fr.ev, argFr, argE, binEv, intEv, shEv, strEv, unEv, Fr.mark, evRes, tup, lenD, lookupD, loadD, partD, storeD, cellsD, cellOk, setAt, objNe, objSame, eqEv, readEv, buildD, buildRows, rowsOf, elemsOf]
      intro r hr
      simp only [canon_nan hr, or_self]
  all_goals simp only [s58, sg0, sg1, sg2, sg3, sg4, sg5, sg6, sg7, sg8, sg9, sg10, sg11, sg12, strEv, floatsK, ordB, q32, q36, resD, valD, tb59_e, Int.natCast_nonneg, Nat.le_refl, Int.le_refl, List.take_succ_cons, List.take_zero, decide_true, decide_false, Bool.and_false, Bool.false_and, zz, zzN, zzF, fltEv, isArithF, ↓reduceIte, Nat.reduceEqDiff, Nat.reduceBEq, Int.reduceLT, Int.reduceLE, Int.reduceToNat, Int.reduceEq, Int.reduceAdd, Int.reduceSub, Int.reduceMul, Int.reduceNeg, Nat.reduceMul, Nat.reduceSub, Nat.reduceLeDiff, Nat.reduceLT, Int.reduceGT, Int.reduceBEq, Int.reduceBNe, reduceCtorEq, Nat.reduceAdd, Ins.map, Fr.ev, argFr, argE, binEv, intEv, shEv, strEv, unEv, Fr.mark, evRes, tup, lenD, lookupD, loadD, partD, storeD, cellsD, cellOk, setAt, objNe, objSame, eqEv, readEv, buildD, buildRows, rowsOf, elemsOf]
def q58 : List D → Option D
  | [.str s, .float .f64 a, .float .f64 b] => if True then some (resD (floatsK (sgnOf s) a b)) else none
  | _ => none
theorem q58_ok (args : List D) (d : D) (h : q58 args = some d) : PCall Try.prog 58 args d := by
  unfold q58 at h
  split at h
  · split at h
    · cases h; exact floats_c _ _ _
    · cases h
  · cases h

def tb58 : Tab := tb59.addQ 58 q58
theorem tb58_q (g : FuncId) (args : List D) : tb58.q g args = if g = 58 then q58 args else tb59.q g args := rfl
theorem tb58_a : tb58.a = tb59.a := rfl
theorem tb58_c : tb58.c = tb59.c := rfl
theorem tb58_ok : tb58.ok Try.prog := Tab.addQ_ok tb59_ok q58_ok
theorem tb58_e : type_of% (And.intro (And.intro @tb58_q (And.intro @tb58_a @tb58_c)) @tb59_e) := (And.intro (And.intro @tb58_q (And.intro @tb58_a @tb58_c)) @tb59_e)

/-- A sign between two values. -/
def binK (k : Nat) (t n t' n' : Int) : (Int × Int) × Int :=
  if (t != t') || !knownK k t then ((0, 0), 0)
  else if t == 2 then floatsK k (bitsOf n) (bitsOf n')
  else if k = 9 then ((3, boolN (trueV t n && trueV t' n')), 0)
  else if k = 10 then ((3, boolN (trueV t n || trueV t' n')), 0)
  else intsK k n n'
set_option maxHeartbeats 1000000 in
theorem binary_c (s : List UInt8) (t n t' n' : Int) : PCall Try.prog 26 [.str s, valD t n, valD t' n'] (resD (binK (sgnOf s) t n t' n')) := by
  refine PCall.run tb58_ok st26 (by simp) fun E => ?_
  obtain ⟨sg0, sg1, sg2, sg3, sg4, sg5, sg6, sg7, sg8, sg9, sg10, sg11, sg12, sg⟩ := sgn_facts s
  simp (config := {maxSteps := 1000000}) only [s26, binK, resD, valD, cellsD, tb58_e, Int.natCast_nonneg, Nat.le_refl, Int.le_refl, List.take_succ_cons, List.take_zero, decide_true, decide_false, Bool.and_false, Bool.false_and, zz, zzN, zzF, fltEv, isArithF, ↓reduceIte, Nat.reduceEqDiff, Nat.reduceBEq, Int.reduceLT, Int.reduceLE, Int.reduceToNat, Int.reduceEq, Int.reduceAdd, Int.reduceSub, Int.reduceMul, Int.reduceNeg, Nat.reduceMul, Nat.reduceSub, Nat.reduceLeDiff, Nat.reduceLT, Int.reduceGT, Int.reduceBEq, Int.reduceBNe, reduceCtorEq, Nat.reduceAdd, Ins.map, Fr.ev, argFr, argE, binEv, intEv, shEv, strEv, unEv, Fr.mark, evRes, tup, lenD, lookupD, loadD, partD, storeD, cellsD, cellOk, setAt, objNe, objSame, eqEv, readEv, buildD, buildRows, rowsOf, elemsOf]
  intro i1 i2 f1 f2 i3 f3 f4 f5 f6
  cases h1 : (t != t') with
  | true => simp (config := {maxSteps := 1000000}) only [h1, f1, f2, f3, f4, f5, f6, Bool.true_or, tb58_e, Int.natCast_nonneg, Nat.le_refl, Int.le_refl, List.take_succ_cons, List.take_zero, decide_true, decide_false, Bool.and_false, Bool.false_and, zz, zzN, zzF, fltEv, isArithF, ↓reduceIte, Nat.reduceEqDiff, Nat.reduceBEq, Int.reduceLT, Int.reduceLE, Int.reduceToNat, Int.reduceEq, Int.reduceAdd, Int.reduceSub, Int.reduceMul, Int.reduceNeg, Nat.reduceMul, Nat.reduceSub, Nat.reduceLeDiff, Nat.reduceLT, Int.reduceGT, Int.reduceBEq, Int.reduceBNe, reduceCtorEq, Nat.reduceAdd, Ins.map, Fr.ev, argFr, argE, binEv, intEv, shEv, strEv, unEv, Fr.mark, evRes, tup, lenD, lookupD, loadD, partD, storeD, cellsD, cellOk, setAt, objNe, objSame, eqEv, readEv, buildD, buildRows, rowsOf, elemsOf]
  | false =>
    cases h2 : knownK (sgnOf s) t with
    | false => simp (config := {maxSteps := 1000000}) only [h1, h2, f1, f2, f3, f4, f5, f6, q57, Bool.true_or, Bool.or_true, tb58_e, Int.natCast_nonneg, Nat.le_refl, Int.le_refl, List.take_succ_cons, List.take_zero, decide_true, decide_false, Bool.and_false, Bool.false_and, zz, zzN, zzF, fltEv, isArithF, ↓reduceIte, Nat.reduceEqDiff, Nat.reduceBEq, Int.reduceLT, Int.reduceLE, Int.reduceToNat, Int.reduceEq, Int.reduceAdd, Int.reduceSub, Int.reduceMul, Int.reduceNeg, Nat.reduceMul, Nat.reduceSub, Nat.reduceLeDiff, Nat.reduceLT, Int.reduceGT, Int.reduceBEq, Int.reduceBNe, reduceCtorEq, Nat.reduceAdd, Ins.map, Fr.ev, argFr, argE, binEv, intEv, shEv, strEv, unEv, Fr.mark, evRes, tup, lenD, lookupD, loadD, partD, storeD, cellsD, cellOk, setAt, objNe, objSame, eqEv, readEv, buildD, buildRows, rowsOf, elemsOf]
    | true =>
      cases h3 : (t == 2) with
      | true =>
        simp (config := {maxSteps := 1000000}) only [h1, h2, h3, f1, f2, f3, f4, f5, f6, q57, q30, q58, resD, valD, Bool.true_or, Bool.or_true, Bool.or_false, Bool.false_or, tb58_e, Int.natCast_nonneg, Nat.le_refl, Int.le_refl, List.take_succ_cons, List.take_zero, decide_true, decide_false, Bool.and_false, Bool.false_and, zz, zzN, zzF, fltEv, isArithF, ↓reduceIte, Nat.reduceEqDiff, Nat.reduceBEq, Int.reduceLT, Int.reduceLE, Int.reduceToNat, Int.reduceEq, Int.reduceAdd, Int.reduceSub, Int.reduceMul, Int.reduceNeg, Nat.reduceMul, Nat.reduceSub, Nat.reduceLeDiff, Nat.reduceLT, Int.reduceGT, Int.reduceBEq, Int.reduceBNe, reduceCtorEq, Nat.reduceAdd, Ins.map, Fr.ev, argFr, argE, binEv, intEv, shEv, strEv, unEv, Fr.mark, evRes, tup, lenD, lookupD, loadD, partD, storeD, cellsD, cellOk, setAt, objNe, objSame, eqEv, readEv, buildD, buildRows, rowsOf, elemsOf]
      | false =>
        by_cases k9 : sgnOf s = 9
        · rw [k9] at h2
          cases h4 : trueV t n <;> simp (config := {maxSteps := 1000000}) only [h1, h2, h3, h4, k9, f1, f2, f3, f4, f5, f6, sg9, strEv, q57, q29, q36, valD, Bool.true_or, Bool.or_true, Bool.or_false, Bool.false_or, tb58_e, Int.natCast_nonneg, Nat.le_refl, Int.le_refl, List.take_succ_cons, List.take_zero, decide_true, decide_false, Bool.and_false, Bool.false_and, zz, zzN, zzF, fltEv, isArithF, ↓reduceIte, Nat.reduceEqDiff, Nat.reduceBEq, Int.reduceLT, Int.reduceLE, Int.reduceToNat, Int.reduceEq, Int.reduceAdd, Int.reduceSub, Int.reduceMul, Int.reduceNeg, Nat.reduceMul, Nat.reduceSub, Nat.reduceLeDiff, Nat.reduceLT, Int.reduceGT, Int.reduceBEq, Int.reduceBNe, reduceCtorEq, Nat.reduceAdd, Ins.map, Fr.ev, argFr, argE, binEv, intEv, shEv, strEv, unEv, Fr.mark, evRes, tup, lenD, lookupD, loadD, partD, storeD, cellsD, cellOk, setAt, objNe, objSame, eqEv, readEv, buildD, buildRows, rowsOf, elemsOf]
        · by_cases k10 : sgnOf s = 10
          · rw [k10] at h2
            cases h4 : trueV t n <;> simp (config := {maxSteps := 1000000}) only [h1, h2, h3, h4, k10, f1, f2, f3, f4, f5, f6, sg9, sg10, strEv, q57, q29, q36, valD, Bool.true_or, Bool.or_true, Bool.or_false, Bool.false_or, tb58_e, Int.natCast_nonneg, Nat.le_refl, Int.le_refl, List.take_succ_cons, List.take_zero, decide_true, decide_false, Bool.and_false, Bool.false_and, zz, zzN, zzF, fltEv, isArithF, ↓reduceIte, Nat.reduceEqDiff, Nat.reduceBEq, Int.reduceLT, Int.reduceLE, Int.reduceToNat, Int.reduceEq, Int.reduceAdd, Int.reduceSub, Int.reduceMul, Int.reduceNeg, Nat.reduceMul, Nat.reduceSub, Nat.reduceLeDiff, Nat.reduceLT, Int.reduceGT, Int.reduceBEq, Int.reduceBNe, reduceCtorEq, Nat.reduceAdd, Ins.map, Fr.ev, argFr, argE, binEv, intEv, shEv, strEv, unEv, Fr.mark, evRes, tup, lenD, lookupD, loadD, partD, storeD, cellsD, cellOk, setAt, objNe, objSame, eqEv, readEv, buildD, buildRows, rowsOf, elemsOf]
          · simp (config := {maxSteps := 1000000}) only [h1, h2, h3, k9, k10, f1, f2, f3, f4, f5, f6, sg9, sg10, strEv, q57, q59, resD, valD, Bool.true_or, Bool.or_true, Bool.or_false, Bool.false_or, tb58_e, Int.natCast_nonneg, Nat.le_refl, Int.le_refl, List.take_succ_cons, List.take_zero, decide_true, decide_false, Bool.and_false, Bool.false_and, zz, zzN, zzF, fltEv, isArithF, ↓reduceIte, Nat.reduceEqDiff, Nat.reduceBEq, Int.reduceLT, Int.reduceLE, Int.reduceToNat, Int.reduceEq, Int.reduceAdd, Int.reduceSub, Int.reduceMul, Int.reduceNeg, Nat.reduceMul, Nat.reduceSub, Nat.reduceLeDiff, Nat.reduceLT, Int.reduceGT, Int.reduceBEq, Int.reduceBNe, reduceCtorEq, Nat.reduceAdd, Ins.map, Fr.ev, argFr, argE, binEv, intEv, shEv, strEv, unEv, Fr.mark, evRes, tup, lenD, lookupD, loadD, partD, storeD, cellsD, cellOk, setAt, objNe, objSame, eqEv, readEv, buildD, buildRows, rowsOf, elemsOf]
def q26 : List D → Option D
  | [.str s, .agg [.int .i64 t, .int .i64 n], .agg [.int .i64 t', .int .i64 n']] => if True then some (resD (binK (sgnOf s) t n t' n')) else none
  | _ => none
theorem q26_ok (args : List D) (d : D) (h : q26 args = some d) : PCall Try.prog 26 args d := by
  unfold q26 at h
  split at h
  · split at h
    · cases h; exact binary_c _ _ _ _ _
    · cases h
  · cases h

def tb26 : Tab := tb58.addQ 26 q26
theorem tb26_q (g : FuncId) (args : List D) : tb26.q g args = if g = 26 then q26 args else tb58.q g args := rfl
theorem tb26_a : tb26.a = tb58.a := rfl
theorem tb26_c : tb26.c = tb58.c := rfl
theorem tb26_ok : tb26.ok Try.prog := Tab.addQ_ok tb58_ok q26_ok
theorem tb26_e : type_of% (And.intro (And.intro @tb26_q (And.intro @tb26_a @tb26_c)) @tb58_e) := (And.intro (And.intro @tb26_q (And.intro @tb26_a @tb26_c)) @tb58_e)

def unK (s : List UInt8) (t n : Int) : Int × Int :=
  if (s == [45] && t == 1) = true then (1, IntKind.i64.wrap (0 - n))
  else if (s == [45] && t == 2) = true then (2, IntKind.i64.wrap (canon (Op.negFloat .f64 (bitsOf n))))
  else if (s == [33] && t == 3) = true then (3, boolN (!trueV t n))
  else (0, 0)
theorem unary_c (s : List UInt8) (t n : Int) : PCall Try.prog 33 [.str s, valD t n] (valD (unK s t n).1 (unK s t n).2) := by
  refine PCall.run tb26_ok st33 (by simp) fun E => ?_
  simp (config := {maxSteps := 1000000}) only [s33, unK, valD, cellsD, strEv, tb26_e, Int.natCast_nonneg, Nat.le_refl, Int.le_refl, List.take_succ_cons, List.take_zero, decide_true, decide_false, Bool.and_false, Bool.false_and, zz, zzN, zzF, fltEv, isArithF, ↓reduceIte, Nat.reduceEqDiff, Nat.reduceBEq, Int.reduceLT, Int.reduceLE, Int.reduceToNat, Int.reduceEq, Int.reduceAdd, Int.reduceSub, Int.reduceMul, Int.reduceNeg, Nat.reduceMul, Nat.reduceSub, Nat.reduceLeDiff, Nat.reduceLT, Int.reduceGT, Int.reduceBEq, Int.reduceBNe, reduceCtorEq, Nat.reduceAdd, Ins.map, Fr.ev, argFr, argE, binEv, intEv, shEv, strEv, unEv, Fr.mark, evRes, tup, lenD, lookupD, loadD, partD, storeD, cellsD, cellOk, setAt, objNe, objSame, eqEv, readEv, buildD, buildRows, rowsOf, elemsOf]
  intro i1 i2 f1 f2
  cases h1 : (s == [45]) <;> cases h2 : (s == [33]) <;> cases h3 : (t == 1) <;> cases h4 : (t == 2) <;> cases h5 : (t == 3) <;>
    simp (config := {maxSteps := 1000000}) only [h1, h2, h3, h4, h5, f1, f2, strEv, q27, q30, q32, q29, q36, valD, Bool.and_true, Bool.true_and, Bool.and_false, tb26_e, Int.natCast_nonneg, Nat.le_refl, Int.le_refl, List.take_succ_cons, List.take_zero, decide_true, decide_false, Bool.and_false, Bool.false_and, zz, zzN, zzF, fltEv, isArithF, ↓reduceIte, Nat.reduceEqDiff, Nat.reduceBEq, Int.reduceLT, Int.reduceLE, Int.reduceToNat, Int.reduceEq, Int.reduceAdd, Int.reduceSub, Int.reduceMul, Int.reduceNeg, Nat.reduceMul, Nat.reduceSub, Nat.reduceLeDiff, Nat.reduceLT, Int.reduceGT, Int.reduceBEq, Int.reduceBNe, reduceCtorEq, Nat.reduceAdd, Ins.map, Fr.ev, argFr, argE, binEv, intEv, shEv, strEv, unEv, Fr.mark, evRes, tup, lenD, lookupD, loadD, partD, storeD, cellsD, cellOk, setAt, objNe, objSame, eqEv, readEv, buildD, buildRows, rowsOf, elemsOf]
def q33 : List D → Option D
  | [.str s, .agg [.int .i64 t, .int .i64 n]] => if True then some (valD (unK s t n).1 (unK s t n).2) else none
  | _ => none
theorem q33_ok (args : List D) (d : D) (h : q33 args = some d) : PCall Try.prog 33 args d := by
  unfold q33 at h
  split at h
  · split at h
    · cases h; exact unary_c _ _ _
    · cases h
  · cases h

def tb33 : Tab := tb26.addQ 33 q33
theorem tb33_q (g : FuncId) (args : List D) : tb33.q g args = if g = 33 then q33 args else tb26.q g args := rfl
theorem tb33_a : tb33.a = tb26.a := rfl
theorem tb33_c : tb33.c = tb26.c := rfl
theorem tb33_ok : tb33.ok Try.prog := Tab.addQ_ok tb26_ok q33_ok
theorem tb33_e : type_of% (And.intro (And.intro @tb33_q (And.intro @tb33_a @tb33_c)) @tb26_e) := (And.intro (And.intro @tb33_q (And.intro @tb33_a @tb33_c)) @tb26_e)

theorem zero_c (t : Int) : PCall Try.prog 37 [.int .i64 t] (valD t 0) := by
  refine PCall.run tb33_ok st37 (by simp) fun E => ?_
  simp only [s37, valD, tb33_e, Int.natCast_nonneg, Nat.le_refl, Int.le_refl, List.take_succ_cons, List.take_zero, decide_true, decide_false, Bool.and_false, Bool.false_and, zz, zzN, zzF, fltEv, isArithF, ↓reduceIte, Nat.reduceEqDiff, Nat.reduceBEq, Int.reduceLT, Int.reduceLE, Int.reduceToNat, Int.reduceEq, Int.reduceAdd, Int.reduceSub, Int.reduceMul, Int.reduceNeg, Nat.reduceMul, Nat.reduceSub, Nat.reduceLeDiff, Nat.reduceLT, Int.reduceGT, Int.reduceBEq, Int.reduceBNe, reduceCtorEq, Nat.reduceAdd, Ins.map, Fr.ev, argFr, argE, binEv, intEv, shEv, strEv, unEv, Fr.mark, evRes, tup, lenD, lookupD, loadD, partD, storeD, cellsD, cellOk, setAt, objNe, objSame, eqEv, readEv, buildD, buildRows, rowsOf, elemsOf]
def q37 : List D → Option D
  | [.int .i64 t] => if True then some (valD t 0) else none
  | _ => none
theorem q37_ok (args : List D) (d : D) (h : q37 args = some d) : PCall Try.prog 37 args d := by
  unfold q37 at h
  split at h
  · split at h
    · cases h; exact zero_c _
    · cases h
  · cases h

def tb37 : Tab := tb33.addQ 37 q37
theorem tb37_q (g : FuncId) (args : List D) : tb37.q g args = if g = 37 then q37 args else tb33.q g args := rfl
theorem tb37_a : tb37.a = tb33.a := rfl
theorem tb37_c : tb37.c = tb33.c := rfl
theorem tb37_ok : tb37.ok Try.prog := Tab.addQ_ok tb33_ok q37_ok
theorem tb37_e : type_of% (And.intro (And.intro @tb37_q (And.intro @tb37_a @tb37_c)) @tb33_e) := (And.intro (And.intro @tb37_q (And.intro @tb37_a @tb37_c)) @tb33_e)

theorem refNan_c : PCall Try.prog 34 [] (.int .i64 9221120237041090561) := by
  refine PCall.run tb37_ok st34 (by simp) fun E => ?_
  simp only [s34, tb37_e, Int.natCast_nonneg, Nat.le_refl, Int.le_refl, List.take_succ_cons, List.take_zero, decide_true, decide_false, Bool.and_false, Bool.false_and, zz, zzN, zzF, fltEv, isArithF, ↓reduceIte, Nat.reduceEqDiff, Nat.reduceBEq, Int.reduceLT, Int.reduceLE, Int.reduceToNat, Int.reduceEq, Int.reduceAdd, Int.reduceSub, Int.reduceMul, Int.reduceNeg, Nat.reduceMul, Nat.reduceSub, Nat.reduceLeDiff, Nat.reduceLT, Int.reduceGT, Int.reduceBEq, Int.reduceBNe, reduceCtorEq, Nat.reduceAdd, Ins.map, Fr.ev, argFr, argE, binEv, intEv, shEv, strEv, unEv, Fr.mark, evRes, tup, lenD, lookupD, loadD, partD, storeD, cellsD, cellOk, setAt, objNe, objSame, eqEv, readEv, buildD, buildRows, rowsOf, elemsOf]
def q34 : List D → Option D
  | [] => if True then some (.int .i64 9221120237041090561) else none
  | _ => none
theorem q34_ok (args : List D) (d : D) (h : q34 args = some d) : PCall Try.prog 34 args d := by
  unfold q34 at h
  split at h
  · split at h
    · cases h; exact refNan_c
    · cases h
  · cases h

def tb34 : Tab := tb37.addQ 34 q34
theorem tb34_q (g : FuncId) (args : List D) : tb34.q g args = if g = 34 then q34 args else tb37.q g args := rfl
theorem tb34_a : tb34.a = tb37.a := rfl
theorem tb34_c : tb34.c = tb37.c := rfl
theorem tb34_ok : tb34.ok Try.prog := Tab.addQ_ok tb37_ok q34_ok
theorem tb34_e : type_of% (And.intro (And.intro @tb34_q (And.intro @tb34_a @tb34_c)) @tb37_e) := (And.intro (And.intro @tb34_q (And.intro @tb34_a @tb34_c)) @tb37_e)

theorem is_c (t n t' n' : Int) : PCall Try.prog 35 [valD t n, valD t' n'] (.bool (t == t' && n == n')) := by
  refine PCall.run tb34_ok st35 (by simp) fun E => ?_
  simp (config := {maxSteps := 1000000}) only [s35, valD, cellsD, tb34_e, Int.natCast_nonneg, Nat.le_refl, Int.le_refl, List.take_succ_cons, List.take_zero, decide_true, decide_false, Bool.and_false, Bool.false_and, zz, zzN, zzF, fltEv, isArithF, ↓reduceIte, Nat.reduceEqDiff, Nat.reduceBEq, Int.reduceLT, Int.reduceLE, Int.reduceToNat, Int.reduceEq, Int.reduceAdd, Int.reduceSub, Int.reduceMul, Int.reduceNeg, Nat.reduceMul, Nat.reduceSub, Nat.reduceLeDiff, Nat.reduceLT, Int.reduceGT, Int.reduceBEq, Int.reduceBNe, reduceCtorEq, Nat.reduceAdd, Ins.map, Fr.ev, argFr, argE, binEv, intEv, shEv, strEv, unEv, Fr.mark, evRes, tup, lenD, lookupD, loadD, partD, storeD, cellsD, cellOk, setAt, objNe, objSame, eqEv, readEv, buildD, buildRows, rowsOf, elemsOf]
  intro i1 i2 f1 f2
  cases h1 : (t == t') <;> simp (config := {maxSteps := 1000000}) only [h1, f1, f2, Bool.true_and, tb34_e, Int.natCast_nonneg, Nat.le_refl, Int.le_refl, List.take_succ_cons, List.take_zero, decide_true, decide_false, Bool.and_false, Bool.false_and, zz, zzN, zzF, fltEv, isArithF, ↓reduceIte, Nat.reduceEqDiff, Nat.reduceBEq, Int.reduceLT, Int.reduceLE, Int.reduceToNat, Int.reduceEq, Int.reduceAdd, Int.reduceSub, Int.reduceMul, Int.reduceNeg, Nat.reduceMul, Nat.reduceSub, Nat.reduceLeDiff, Nat.reduceLT, Int.reduceGT, Int.reduceBEq, Int.reduceBNe, reduceCtorEq, Nat.reduceAdd, Ins.map, Fr.ev, argFr, argE, binEv, intEv, shEv, strEv, unEv, Fr.mark, evRes, tup, lenD, lookupD, loadD, partD, storeD, cellsD, cellOk, setAt, objNe, objSame, eqEv, readEv, buildD, buildRows, rowsOf, elemsOf]
def q35 : List D → Option D
  | [.agg [.int .i64 t, .int .i64 n], .agg [.int .i64 t', .int .i64 n']] => if True then some (.bool (t == t' && n == n')) else none
  | _ => none
theorem q35_ok (args : List D) (d : D) (h : q35 args = some d) : PCall Try.prog 35 args d := by
  unfold q35 at h
  split at h
  · split at h
    · cases h; exact is_c _ _ _ _
    · cases h
  · cases h

def tb35 : Tab := tb34.addQ 35 q35
theorem tb35_q (g : FuncId) (args : List D) : tb35.q g args = if g = 35 then q35 args else tb34.q g args := rfl
theorem tb35_a : tb35.a = tb34.a := rfl
theorem tb35_c : tb35.c = tb34.c := rfl
theorem tb35_ok : tb35.ok Try.prog := Tab.addQ_ok tb34_ok q35_ok
theorem tb35_e : type_of% (And.intro (And.intro @tb35_q (And.intro @tb35_a @tb35_c)) @tb34_e) := (And.intro (And.intro @tb35_q (And.intro @tb35_a @tb35_c)) @tb34_e)

end Go.Proofs.Ytaimobfakcompaa.Zz
