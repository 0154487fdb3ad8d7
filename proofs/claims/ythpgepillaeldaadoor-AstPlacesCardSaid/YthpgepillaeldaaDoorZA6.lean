/- Contracts: the tree of the layer's awake. -/
import Derived.Test.YthpgepillaeldaaDoorZA4
set_option linter.unnecessarySimpa false
namespace Go.Proofs.YthpgepillaeldaaDoor.Zz
noncomputable section
set_option linter.unusedVariables false
set_option linter.unusedSimpArgs false
set_option maxRecDepth 20000
def p12n : Plan := ⟨⟨[], [], [], [], [], []⟩, [], [], false⟩
/-- cupel/cupellaw10.awake (0 parameters, 0 captured) -/
def s12n : Stm :=
  .seq (.ops [⟨.mov (.c (.bool false)), (some 0), none, true⟩])
  (.seq (.ops [⟨.build [(.int .i64 0), (.int .i64 0), (.str []), (.int .i64 0), .nilsl] [(0, 1, (.c (.int .i64 20))), (3, 1, (.c (.int .i64 1)))], (some 4), none, true⟩,
     ⟨.build [(.int .i64 0), (.int .i64 0), (.str []), (.int .i64 0), .nilsl] [(0, 1, (.c (.int .i64 23))), (2, 1, (.c (.str [97])))], (some 5), none, true⟩,
     ⟨.buildSlice 5 [(.int .i64 0), (.int .i64 0), (.str []), (.int .i64 0), .nilsl] 2 [(0, (.t 4)), (1, (.t 5))] false, (some 6), none, true⟩,
     ⟨.build [(.int .i64 0), (.int .i64 0), (.str []), (.int .i64 0), .nilsl] [(0, 1, (.c (.int .i64 26))), (2, 1, (.c (.str [43]))), (4, 1, (.t 6))], (some 7), none, true⟩,
     ⟨.alloc [(.int .i64 0), (.int .i64 0), (.str []), (.int .i64 0), .nilsl], (some 1), none, false⟩,
     ⟨.store 5 (.t 1) (.t 7), none, none, false⟩])
  (.seq (.ops [⟨.load (some 5) (.t 1), (some 9), none, false⟩,
     ⟨.qcall (.f 13) [(.t 9)], (some 10), none, false⟩,
     ⟨.qcall (.f 11) [(.t 10)], (some 11), none, false⟩,
     ⟨.mov (.t 11), (some 8), none, true⟩,
     ⟨.extract (.t 8) 0, (some 12), none, true⟩,
     ⟨.extract (.t 8) 1, (some 13), none, true⟩,
     ⟨.alloc [(.int .i64 0), (.int .i64 0), (.str []), (.int .i64 0), .nilsl], (some 2), none, false⟩,
     ⟨.store 5 (.t 2) (.t 12), none, none, false⟩,
     ⟨.mov (.t 13), (some 3), none, true⟩])
  (.seq (.ops [⟨.mov (.t 3), (some 14), none, true⟩,
     ⟨.bin .eql (.t 14) (.c (.int .i64 0)), (some 15), none, true⟩,
     ⟨.mov (.t 15), (some 16), none, true⟩,
     ⟨.load (some 5) (.t 1), (some 17), (some (16, true)), false⟩,
     ⟨.load (some 5) (.t 2), (some 18), (some (16, true)), false⟩,
     ⟨.qcall (.f 19) [(.t 17), (.t 18)], (some 19), (some (16, true)), false⟩,
     ⟨.pick (.t 16) (.t 19) (.c (.bool false)), (some 20), none, true⟩,
     ⟨.mov (.t 20), (some 21), none, true⟩,
     ⟨.load (some 5) (.t 1), (some 22), (some (21, true)), false⟩,
     ⟨.qcall (.f 39) [(.t 22)], (some 23), (some (21, true)), false⟩,
     ⟨.bin .eql (.t 23) (.c (.str [40, 49, 32, 43, 32, 97, 41])), (some 24), (some (21, true)), true⟩,
     ⟨.pick (.t 21) (.t 24) (.c (.bool false)), (some 25), none, true⟩,
     ⟨.mov (.t 25), (some 26), none, true⟩,
     ⟨.load (some 5) (.t 1), (some 27), (some (26, true)), false⟩,
     ⟨.qcall (.f 14) [(.t 27)], (some 28), (some (26, true)), false⟩,
     ⟨.bin .eql (.t 28) (.c (.int .i64 3)), (some 29), (some (26, true)), true⟩,
     ⟨.pick (.t 26) (.t 29) (.c (.bool false)), (some 30), none, true⟩,
     ⟨.mov (.t 30), (some 0), none, true⟩])
  (.ret))))
theorem st12n : stmOf Tryd.prog 12 p12n = some (s12n, [.tmp 0], 31) := by kernel_rfl

def p39n : Plan := ⟨⟨[], [], [], [], [], []⟩, [(12, [0, 1, 2, 3, 4, 5, 6, 7]), (14, [0, 1, 2, 3, 4, 5, 6, 7])], [], false⟩
/-- cupel/ast.Print (1 parameters, 0 captured) -/
def s39n : Stm :=
  .seq (.ops [⟨.box (.t 0), (some 1), none, false⟩,
     ⟨.mov (.c (.str [])), (some 2), none, true⟩])
  (.seq (.seq (.ops [⟨.fieldAddr 0 (.t 1), (some 5), none, true⟩,
      ⟨.load none (.t 5), (some 6), none, false⟩,
      ⟨.bin .geq (.t 6) (.c (.int .i64 20)), (some 7), none, true⟩])
   (.cond (.t 7)
    (.seq (.ops [⟨.load (some 5) (.t 1), (some 8), none, false⟩,
        ⟨.qcall (.f 70) [(.t 8)], (some 9), none, false⟩,
        ⟨.mov (.t 9), (some 2), none, true⟩])
     (.ret))
    (.skip)))
  (.seq (.seq (.ops [⟨.fieldAddr 0 (.t 1), (some 10), none, true⟩,
      ⟨.load none (.t 10), (some 11), none, false⟩,
      ⟨.bin .leq (.t 11) (.c (.int .i64 5)), (some 12), none, true⟩])
   (.cond (.t 12)
    (.seq (.ops [⟨.load (some 5) (.t 1), (some 13), none, false⟩,
        ⟨.qcall (.f 71) [(.t 13)], (some 14), none, false⟩,
        ⟨.mov (.t 14), (some 2), none, true⟩])
     (.ret))
    (.skip)))
  (.seq (.ops [⟨.mkFunc (.func 72) [] [(.t 1)], (some 15), none, true⟩,
     ⟨.mov (.t 15), (some 3), none, true⟩])
  (.seq (.seq (.ops [⟨.fieldAddr 0 (.t 1), (some 16), none, true⟩,
      ⟨.load none (.t 16), (some 17), none, false⟩])
   (.block 0 (.seq (.ops [⟨.bin .eql (.t 17) (.c (.int .i64 6)), (some 19), none, true⟩,
       ⟨.mov (.t 19), (some 18), none, true⟩])
    (.cond (.t 18)
     (.seq (.seq (.ops [⟨.fieldAddr 4 (.t 1), (some 20), none, true⟩,
          ⟨.load none (.t 20), (some 21), none, false⟩,
          ⟨.len .sl (.t 21), (some 22), none, false⟩,
          ⟨.bin .eql (.t 22) (.c (.int .i64 0)), (some 23), none, true⟩])
       (.cond (.t 23)
        (.seq (.ops [⟨.mov (.c (.str [123, 32, 125])), (some 2), none, true⟩])
         (.ret))
        (.skip)))
      (.seq (.ops [⟨.fieldAddr 4 (.t 1), (some 24), none, true⟩,
         ⟨.load none (.t 24), (some 25), none, false⟩,
         ⟨.qcall (.f 73) [(.t 25), (.c (.str [32]))], (some 26), none, false⟩,
         ⟨.bin .add (.c (.str [123, 32])) (.t 26), (some 27), none, true⟩,
         ⟨.bin .add (.t 27) (.c (.str [32, 125])), (some 28), none, true⟩,
         ⟨.mov (.t 28), (some 2), none, true⟩])
      (.ret)))
     (.seq (.ops [⟨.bin .eql (.t 17) (.c (.int .i64 7)), (some 30), none, true⟩,
         ⟨.mov (.t 30), (some 29), none, true⟩])
      (.cond (.t 29)
       (.seq (.opsD [⟨.fieldAddr 2 (.t 1), (some 31), none, true⟩,
           ⟨.load none (.t 31), (some 32), none, false⟩,
           ⟨.bin .add (.t 32) (.c (.str [32, 58, 61, 32])), (some 33), none, true⟩,
           ⟨.mov (.t 3), (some 34), none, true⟩,
           ⟨.qcall (.t 34) [(.c (.int .i64 0))], (some 35), none, false⟩,
           ⟨.bin .add (.t 33) (.t 35), (some 36), none, true⟩,
           ⟨.bin .add (.t 36) (.c (.str [59])), (some 37), none, true⟩,
           ⟨.mov (.t 37), (some 2), none, true⟩])
        (.ret))
       (.seq (.ops [⟨.bin .eql (.t 17) (.c (.int .i64 8)), (some 39), none, true⟩,
           ⟨.mov (.t 39), (some 38), none, true⟩])
        (.cond (.t 38)
         (.seq (.opsD [⟨.fieldAddr 2 (.t 1), (some 40), none, true⟩,
             ⟨.load none (.t 40), (some 41), none, false⟩,
             ⟨.bin .add (.t 41) (.c (.str [32, 61, 32])), (some 42), none, true⟩,
             ⟨.mov (.t 3), (some 43), none, true⟩,
             ⟨.qcall (.t 43) [(.c (.int .i64 0))], (some 44), none, false⟩,
             ⟨.bin .add (.t 42) (.t 44), (some 45), none, true⟩,
             ⟨.bin .add (.t 45) (.c (.str [59])), (some 46), none, true⟩,
             ⟨.mov (.t 46), (some 2), none, true⟩])
          (.ret))
         (.seq (.ops [⟨.bin .eql (.t 17) (.c (.int .i64 9)), (some 48), none, true⟩,
             ⟨.mov (.t 48), (some 47), none, true⟩])
          (.cond (.t 47)
           (.seq (.ops [⟨.mov (.t 3), (some 49), none, true⟩,
               ⟨.qcall (.t 49) [(.c (.int .i64 0))], (some 50), none, false⟩,
               ⟨.bin .add (.c (.str [105, 102, 32])) (.t 50), (some 51), none, true⟩,
               ⟨.bin .add (.t 51) (.c (.str [32])), (some 52), none, true⟩,
               ⟨.mov (.t 3), (some 53), none, true⟩,
               ⟨.qcall (.t 53) [(.c (.int .i64 1))], (some 54), none, false⟩,
               ⟨.bin .add (.t 52) (.t 54), (some 55), none, true⟩,
               ⟨.mov (.t 55), (some 4), none, true⟩])
            (.seq (.seq (.ops [⟨.fieldAddr 4 (.t 1), (some 56), none, true⟩,
                ⟨.load none (.t 56), (some 57), none, false⟩,
                ⟨.len .sl (.t 57), (some 58), none, false⟩,
                ⟨.bin .gtr (.t 58) (.c (.int .i64 2)), (some 59), none, true⟩])
             (.cond (.t 59)
              (.ops [⟨.mov (.t 4), (some 60), none, true⟩,
                 ⟨.mov (.t 3), (some 61), none, true⟩,
                 ⟨.qcall (.t 61) [(.c (.int .i64 2))], (some 62), none, false⟩,
                 ⟨.bin .add (.c (.str [32, 101, 108, 115, 101, 32])) (.t 62), (some 63), none, true⟩,
                 ⟨.bin .add (.t 60) (.t 63), (some 64), none, true⟩,
                 ⟨.mov (.t 64), (some 4), none, true⟩])
              (.skip)))
            (.seq (.ops [⟨.mov (.t 4), (some 65), none, true⟩,
               ⟨.mov (.t 65), (some 2), none, true⟩])
            (.ret))))
           (.seq (.ops [⟨.bin .eql (.t 17) (.c (.int .i64 10)), (some 67), none, true⟩,
               ⟨.mov (.t 67), (some 66), none, true⟩])
            (.cond (.t 66)
             (.seq (.ops [⟨.mov (.t 3), (some 68), none, true⟩,
                 ⟨.qcall (.t 68) [(.c (.int .i64 0))], (some 69), none, false⟩,
                 ⟨.bin .add (.c (.str [102, 111, 114, 32])) (.t 69), (some 70), none, true⟩,
                 ⟨.bin .add (.t 70) (.c (.str [32])), (some 71), none, true⟩,
                 ⟨.mov (.t 3), (some 72), none, true⟩,
                 ⟨.qcall (.t 72) [(.c (.int .i64 1))], (some 73), none, false⟩,
                 ⟨.bin .add (.t 71) (.t 73), (some 74), none, true⟩,
                 ⟨.mov (.t 74), (some 2), none, true⟩])
              (.ret))
             (.seq (.ops [⟨.bin .eql (.t 17) (.c (.int .i64 11)), (some 76), none, true⟩,
                 ⟨.mov (.t 76), (some 75), none, true⟩])
              (.cond (.t 75)
               (.seq (.ops [⟨.mov (.t 3), (some 77), none, true⟩,
                   ⟨.qcall (.t 77) [(.c (.int .i64 0))], (some 78), none, false⟩,
                   ⟨.bin .add (.c (.str [114, 101, 116, 117, 114, 110, 32])) (.t 78), (some 79), none, true⟩,
                   ⟨.bin .add (.t 79) (.c (.str [59])), (some 80), none, true⟩,
                   ⟨.mov (.t 80), (some 2), none, true⟩])
                (.ret))
               (.seq (.ops [⟨.bin .eql (.t 17) (.c (.int .i64 12)), (some 82), none, true⟩,
                   ⟨.mov (.t 82), (some 81), none, true⟩])
                (.cond (.t 81)
                 (.seq (.ops [⟨.mov (.t 3), (some 83), none, true⟩,
                     ⟨.qcall (.t 83) [(.c (.int .i64 0))], (some 84), none, false⟩,
                     ⟨.bin .add (.c (.str [97, 115, 115, 101, 114, 116, 32])) (.t 84), (some 85), none, true⟩,
                     ⟨.bin .add (.t 85) (.c (.str [59])), (some 86), none, true⟩,
                     ⟨.mov (.t 86), (some 2), none, true⟩])
                  (.ret))
                 (.seq (.ops [⟨.bin .eql (.t 17) (.c (.int .i64 13)), (some 88), none, true⟩,
                     ⟨.mov (.t 88), (some 87), none, true⟩])
                  (.cond (.t 87)
                   (.seq (.ops [⟨.mov (.t 3), (some 89), none, true⟩,
                       ⟨.qcall (.t 89) [(.c (.int .i64 0))], (some 90), none, false⟩,
                       ⟨.bin .add (.t 90) (.c (.str [59])), (some 91), none, true⟩,
                       ⟨.mov (.t 91), (some 2), none, true⟩])
                    (.ret))
                   (.skip)))))))))))))))))))
  (.seq (.ops [⟨.mov (.c (.str [115, 107, 105, 112, 59])), (some 2), none, true⟩])
  (.ret))))))
theorem st39n : stmOf Tryd.prog 39 p39n = some (s39n, [.tmp 2], 92) := by kernel_rfl

def p70n : Plan := ⟨⟨[], [], [], [], [], []⟩, [(12, [0, 1, 2, 3, 4, 5, 6, 7, 8]), (14, [0, 1, 4, 5, 2, 3, 6, 7, 8, 9]), (16, [0, 1, 2, 3, 4, 5, 6])], [], false⟩
/-- cupel/ast.expr (1 parameters, 0 captured) -/
def s70n : Stm :=
  .seq (.ops [⟨.box (.t 0), (some 1), none, false⟩,
     ⟨.mov (.c (.str [])), (some 2), none, true⟩])
  (.seq (.seq (.ops [⟨.fieldAddr 0 (.t 1), (some 3), none, true⟩,
      ⟨.load none (.t 3), (some 4), none, false⟩])
   (.block 0 (.seq (.ops [⟨.bin .eql (.t 4) (.c (.int .i64 20)), (some 6), none, true⟩,
       ⟨.mov (.t 6), (some 5), none, true⟩])
    (.cond (.t 5)
     (.seq (.ops [⟨.fieldAddr 3 (.t 1), (some 7), none, true⟩,
         ⟨.load none (.t 7), (some 8), none, false⟩,
         ⟨.qcall (.f 97) [(.t 8), (.c (.int .i64 10))], (some 9), none, false⟩,
         ⟨.mov (.t 9), (some 2), none, true⟩])
      (.ret))
     (.seq (.seq (.ops [⟨.bin .eql (.t 4) (.c (.int .i64 21)), (some 11), none, true⟩,
          ⟨.mov (.t 11), (some 10), none, true⟩])
       (.cond (.t 10)
        (.skip)
        (.ops [⟨.bin .eql (.t 4) (.c (.int .i64 23)), (some 12), none, true⟩,
           ⟨.mov (.t 12), (some 10), none, true⟩])))
      (.cond (.t 10)
       (.seq (.ops [⟨.fieldAddr 2 (.t 1), (some 13), none, true⟩,
           ⟨.load none (.t 13), (some 14), none, false⟩,
           ⟨.mov (.t 14), (some 2), none, true⟩])
        (.ret))
       (.seq (.ops [⟨.bin .eql (.t 4) (.c (.int .i64 22)), (some 16), none, true⟩,
           ⟨.mov (.t 16), (some 15), none, true⟩])
        (.cond (.t 15)
         (.seq (.seq (.ops [⟨.fieldAddr 3 (.t 1), (some 17), none, true⟩,
              ⟨.load none (.t 17), (some 18), none, false⟩,
              ⟨.bin .eql (.t 18) (.c (.int .i64 0)), (some 19), none, true⟩])
           (.cond (.t 19)
            (.seq (.ops [⟨.mov (.c (.str [102, 97, 108, 115, 101])), (some 2), none, true⟩])
             (.ret))
            (.skip)))
          (.seq (.ops [⟨.mov (.c (.str [116, 114, 117, 101])), (some 2), none, true⟩])
          (.ret)))
         (.seq (.ops [⟨.bin .eql (.t 4) (.c (.int .i64 24)), (some 21), none, true⟩,
             ⟨.mov (.t 21), (some 20), none, true⟩])
          (.cond (.t 20)
           (.seq (.opsD [⟨.fieldAddr 2 (.t 1), (some 22), none, true⟩,
               ⟨.load none (.t 22), (some 23), none, false⟩,
               ⟨.bin .add (.t 23) (.c (.str [40])), (some 24), none, true⟩,
               ⟨.fieldAddr 4 (.t 1), (some 25), none, true⟩,
               ⟨.load none (.t 25), (some 26), none, false⟩,
               ⟨.qcall (.f 73) [(.t 26), (.c (.str [44, 32]))], (some 27), none, false⟩,
               ⟨.bin .add (.t 24) (.t 27), (some 28), none, true⟩,
               ⟨.bin .add (.t 28) (.c (.str [41])), (some 29), none, true⟩,
               ⟨.mov (.t 29), (some 2), none, true⟩])
            (.ret))
           (.seq (.ops [⟨.bin .eql (.t 4) (.c (.int .i64 27)), (some 31), none, true⟩,
               ⟨.mov (.t 31), (some 30), none, true⟩])
            (.cond (.t 30)
             (.seq (.opsD [⟨.fieldAddr 1 (.t 1), (some 32), none, true⟩,
                 ⟨.load none (.t 32), (some 33), none, false⟩,
                 ⟨.fieldAddr 4 (.t 1), (some 36), none, true⟩,
                 ⟨.load none (.t 36), (some 37), none, false⟩,
                 ⟨.qcall (.f 98) [(.t 33)], (some 34), none, false⟩,
                 ⟨.bin .add (.t 34) (.c (.str [40])), (some 35), none, true⟩,
                 ⟨.qcall (.f 73) [(.t 37), (.c (.str [44, 32]))], (some 38), none, false⟩,
                 ⟨.bin .add (.t 35) (.t 38), (some 39), none, true⟩,
                 ⟨.bin .add (.t 39) (.c (.str [41])), (some 40), none, true⟩,
                 ⟨.mov (.t 40), (some 2), none, true⟩])
              (.ret))
             (.seq (.ops [⟨.bin .eql (.t 4) (.c (.int .i64 25)), (some 42), none, true⟩,
                 ⟨.mov (.t 42), (some 41), none, true⟩])
              (.cond (.t 41)
               (.seq (.opsD [⟨.fieldAddr 2 (.t 1), (some 43), none, true⟩,
                   ⟨.load none (.t 43), (some 44), none, false⟩,
                   ⟨.fieldAddr 4 (.t 1), (some 45), none, true⟩,
                   ⟨.load none (.t 45), (some 46), none, false⟩,
                   ⟨.qcall (.f 73) [(.t 46), (.c (.str []))], (some 47), none, false⟩,
                   ⟨.bin .add (.t 44) (.t 47), (some 48), none, true⟩,
                   ⟨.mov (.t 48), (some 2), none, true⟩])
                (.ret))
               (.skip)))))))))))))))
  (.seq (.ops [⟨.fieldAddr 4 (.t 1), (some 49), none, true⟩,
     ⟨.load none (.t 49), (some 50), none, false⟩,
     ⟨.fieldAddr 2 (.t 1), (some 51), none, true⟩,
     ⟨.load none (.t 51), (some 52), none, false⟩,
     ⟨.bin .add (.c (.str [32])) (.t 52), (some 53), none, true⟩,
     ⟨.bin .add (.t 53) (.c (.str [32])), (some 54), none, true⟩,
     ⟨.qcall (.f 73) [(.t 50), (.t 54)], (some 55), none, false⟩,
     ⟨.bin .add (.c (.str [40])) (.t 55), (some 56), none, true⟩,
     ⟨.bin .add (.t 56) (.c (.str [41])), (some 57), none, true⟩,
     ⟨.mov (.t 57), (some 2), none, true⟩])
  (.ret)))
theorem st70n : stmOf Tryd.prog 70 p70n = some (s70n, [.tmp 2], 58) := by kernel_rfl

def p73n : Plan := ⟨⟨[], [], [], [], [], []⟩, [], [], false⟩
/-- cupel/ast.kids (2 parameters, 0 captured) -/
def s73n : Stm :=
  .seq (.ops [⟨.mov (.c (.str [])), (some 4), none, true⟩])
  (.seq (.ops [⟨.mov (.c .nilsl), (some 5), none, true⟩])
  (.seq (.seq (.ops [⟨.mov (.t 0), (some 8), none, true⟩,
      ⟨.len .sl (.t 8), (some 9), none, false⟩,
      ⟨.mov (.c (.int .i64 0)), (some 10), none, true⟩])
   (.block 0 (.loop (.seq (.ops [⟨.bin .lss (.t 10) (.t 9), (some 11), none, true⟩])
     (.seq (.cond (.t 11)
       (.skip)
       (.exit 0))
     (.seq (.block 1 (.seq (.ops [⟨.indexAddrS 5 (.t 8) (.t 10), (some 12), none, false⟩,
          ⟨.load (some 5) (.t 12), (some 13), none, false⟩,
          ⟨.alloc [(.int .i64 0), (.int .i64 0), (.str []), (.int .i64 0), .nilsl], (some 7), none, false⟩,
          ⟨.store 5 (.t 7) (.t 13), none, none, false⟩])
       (.ops [⟨.mov (.t 5), (some 14), none, true⟩,
         ⟨.load (some 5) (.t 7), (some 15), none, false⟩,
         ⟨.qcall (.f 39) [(.t 15)], (some 16), none, false⟩,
         ⟨.buildSlice 1 [(.str [])] 1 [(0, (.t 16))] false, (some 17), none, true⟩,
         ⟨.append 1 16 false (.t 14) (.t 17), (some 18), none, false⟩,
         ⟨.mov (.t 18), (some 5), none, true⟩])))
     (.ops [⟨.bin .add (.t 10) (.c (.int .i64 1)), (some 19), none, true⟩,
       ⟨.mov (.t 19), (some 10), none, true⟩])))))))
  (.seq (.ops [⟨.mov (.t 5), (some 20), none, true⟩,
     ⟨.mov (.t 1), (some 21), none, true⟩,
     ⟨.qcall (.f 100) [(.t 20), (.t 21)], (some 22), none, false⟩,
     ⟨.mov (.t 22), (some 4), none, true⟩])
  (.ret))))
theorem st73n : stmOf Tryd.prog 73 p73n = some (s73n, [.tmp 4], 23) := by kernel_rfl

def q11n : List D → Option D
  | [.str s] => if True then some (.tuple [.agg (decodeF s).1.enc, .int .i64 (decodeF s).2]) else none
  | _ => none
theorem q11n_ok (args : List D) (d : D) (h : q11n args = some d) : PCall Tryd.prog 11 args d := by
  unfold q11n at h
  split at h
  · split at h
    · cases h; exact decode_c _
    · cases h
  · cases h

def tb11n : Tab := tb19n.addQ 11 q11n
theorem tb11n_q (g : FuncId) (args : List D) : tb11n.q g args = if g = 11 then q11n args else tb19n.q g args := rfl
theorem tb11n_a : tb11n.a = tb19n.a := rfl
theorem tb11n_c : tb11n.c = tb19n.c := rfl
theorem tb11n_ok : tb11n.ok Tryd.prog := Tab.addQ_ok tb19n_ok q11n_ok
theorem tb11n_e : type_of% (And.intro (And.intro @tb11n_q (And.intro @tb11n_a @tb11n_c)) @tb19n_e) := (And.intro (And.intro @tb11n_q (And.intro @tb11n_a @tb11n_c)) @tb19n_e)

theorem leafI_c : PCall Tryd.prog 70 [.agg [.int .i64 20, .int .i64 0, .str [], .int .i64 1, .sl []]] (.str [49]) := by
  refine PCall.run tb11n_ok st70n (by simp) fun E => ?_
  have e1 : q97n [.int .i64 1, .int .i64 10] = some (.str [49]) := by rw [q97n_eq (n := 1) (by omega) (by omega), show Lib.itoa 1 = [49] by decide +kernel]
  simp (config := {maxSteps := 1000000}) only [s70n, e1, tb41n_e, tb11n_e, i_callNe, Int.natCast_nonneg, Nat.le_refl, Int.le_refl, List.take_succ_cons, List.take_zero, decide_true, decide_false, Bool.and_false, Bool.false_and, zz, zzN, zzF, zzD, zzM, cond_true, cond_false, ↓reduceIte, Nat.reduceEqDiff, Nat.reduceBEq, Int.reduceLT, Int.reduceLE, Int.reduceToNat, Int.reduceEq, Int.reduceAdd, Int.reduceSub, Int.reduceMul, Int.reduceNeg, Nat.reduceMul, Nat.reduceSub, Nat.reduceLeDiff, Nat.reduceLT, Int.reduceGT, Int.reduceGE, Int.reduceBEq, Int.reduceBNe, reduceCtorEq, Nat.reduceAdd]
theorem leafV_c : PCall Tryd.prog 70 [.agg [.int .i64 23, .int .i64 0, .str [97], .int .i64 0, .sl []]] (.str [97]) := by
  refine PCall.run tb11n_ok st70n (by simp) fun E => ?_
  simp (config := {maxSteps := 1000000}) only [s70n, tb41n_e, tb11n_e, i_callNe, Int.natCast_nonneg, Nat.le_refl, Int.le_refl, List.take_succ_cons, List.take_zero, decide_true, decide_false, Bool.and_false, Bool.false_and, zz, zzN, zzF, zzD, zzM, cond_true, cond_false, ↓reduceIte, Nat.reduceEqDiff, Nat.reduceBEq, Int.reduceLT, Int.reduceLE, Int.reduceToNat, Int.reduceEq, Int.reduceAdd, Int.reduceSub, Int.reduceMul, Int.reduceNeg, Nat.reduceMul, Nat.reduceSub, Nat.reduceLeDiff, Nat.reduceLT, Int.reduceGT, Int.reduceGE, Int.reduceBEq, Int.reduceBNe, reduceCtorEq, Nat.reduceAdd]
def qLf : List D → Option D
  | [.agg [.int .i64 20, .int .i64 0, .str [], .int .i64 1, .sl []]] => some (.str [49])
  | [.agg [.int .i64 23, .int .i64 0, .str [97], .int .i64 0, .sl []]] => some (.str [97])
  | _ => none
theorem qLf_1 : qLf [.agg [.int .i64 20, .int .i64 0, .str [], .int .i64 1, .sl []]] = some (.str [49]) := rfl
theorem qLf_2 : qLf [.agg [.int .i64 23, .int .i64 0, .str [97], .int .i64 0, .sl []]] = some (.str [97]) := rfl
theorem qLf_ok (args : List D) (d : D) (h : qLf args = some d) : PCall Tryd.prog 70 args d := by
  unfold qLf at h
  split at h
  · cases h; exact leafI_c
  · cases h; exact leafV_c
  · cases h
def tbLf : Tab := tb11n.addQ 70 qLf
theorem tbLf_q (g : FuncId) (args : List D) : tbLf.q g args = if g = 70 then qLf args else tb11n.q g args := rfl
theorem tbLf_a : tbLf.a = tb11n.a := rfl
theorem tbLf_c : tbLf.c = tb11n.c := rfl
theorem tbLf_ok : tbLf.ok Tryd.prog := Tab.addQ_ok tb11n_ok qLf_ok
theorem tbLf_e : type_of% (And.intro (And.intro @tbLf_q (And.intro @tbLf_a @tbLf_c)) @tb11n_e) := (And.intro (And.intro @tbLf_q (And.intro @tbLf_a @tbLf_c)) @tb11n_e)

theorem leafPI_c : PCall Tryd.prog 39 [.agg [.int .i64 20, .int .i64 0, .str [], .int .i64 1, .sl []]] (.str [49]) := by
  refine PCall.run tbLf_ok st39n (by simp) fun E => ?_
  simp (config := {maxSteps := 1000000}) only [s39n, qLf_1, tb41n_e, tbLf_e, i_callNe, Int.natCast_nonneg, Nat.le_refl, Int.le_refl, List.take_succ_cons, List.take_zero, decide_true, decide_false, Bool.and_false, Bool.false_and, zz, zzN, zzF, zzD, zzM, cond_true, cond_false, ↓reduceIte, Nat.reduceEqDiff, Nat.reduceBEq, Int.reduceLT, Int.reduceLE, Int.reduceToNat, Int.reduceEq, Int.reduceAdd, Int.reduceSub, Int.reduceMul, Int.reduceNeg, Nat.reduceMul, Nat.reduceSub, Nat.reduceLeDiff, Nat.reduceLT, Int.reduceGT, Int.reduceGE, Int.reduceBEq, Int.reduceBNe, reduceCtorEq, Nat.reduceAdd]
theorem leafPV_c : PCall Tryd.prog 39 [.agg [.int .i64 23, .int .i64 0, .str [97], .int .i64 0, .sl []]] (.str [97]) := by
  refine PCall.run tbLf_ok st39n (by simp) fun E => ?_
  simp (config := {maxSteps := 1000000}) only [s39n, qLf_2, tb41n_e, tbLf_e, i_callNe, Int.natCast_nonneg, Nat.le_refl, Int.le_refl, List.take_succ_cons, List.take_zero, decide_true, decide_false, Bool.and_false, Bool.false_and, zz, zzN, zzF, zzD, zzM, cond_true, cond_false, ↓reduceIte, Nat.reduceEqDiff, Nat.reduceBEq, Int.reduceLT, Int.reduceLE, Int.reduceToNat, Int.reduceEq, Int.reduceAdd, Int.reduceSub, Int.reduceMul, Int.reduceNeg, Nat.reduceMul, Nat.reduceSub, Nat.reduceLeDiff, Nat.reduceLT, Int.reduceGT, Int.reduceGE, Int.reduceBEq, Int.reduceBNe, reduceCtorEq, Nat.reduceAdd]
theorem qLp_ok (args : List D) (d : D) (h : qLf args = some d) : PCall Tryd.prog 39 args d := by
  unfold qLf at h
  split at h
  · cases h; exact leafPI_c
  · cases h; exact leafPV_c
  · cases h
def tbLp : Tab := tbLf.addQ 39 qLf
theorem tbLp_q (g : FuncId) (args : List D) : tbLp.q g args = if g = 39 then qLf args else tbLf.q g args := rfl
theorem tbLp_a : tbLp.a = tbLf.a := rfl
theorem tbLp_c : tbLp.c = tbLf.c := rfl
theorem tbLp_ok : tbLp.ok Tryd.prog := Tab.addQ_ok tbLf_ok qLp_ok
theorem tbLp_e : type_of% (And.intro (And.intro @tbLp_q (And.intro @tbLp_a @tbLp_c)) @tbLf_e) := (And.intro (And.intro @tbLp_q (And.intro @tbLp_a @tbLp_c)) @tbLf_e)

theorem kids2_c : PCall Tryd.prog 73 [.sl [[.int .i64 20, .int .i64 0, .str [], .int .i64 1, .sl []], [.int .i64 23, .int .i64 0, .str [97], .int .i64 0, .sl []]], .str [32, 43, 32]] (.str [49, 32, 43, 32, 97]) := by
  refine PCall.run tbLp_ok st73n (by simp) fun E => ?_
  have e1 : q100n [.sl [[.str [49]], [.str [97]]], .str [32, 43, 32]] = some (.str [49, 32, 43, 32, 97]) := q100n_eq (l := [[49], [97]]) (s := [32, 43, 32]) (by decide)
  simp (config := {maxSteps := 1000000}) only [s73n, qLf_1, qLf_2, e1, tb41n_e, tbLp_e, i_callNe, Int.natCast_nonneg, Nat.le_refl, Int.le_refl, List.take_succ_cons, List.take_zero, decide_true, decide_false, Bool.and_false, Bool.false_and, zz, zzN, zzF, zzD, zzM, cond_true, cond_false, ↓reduceIte, Nat.reduceEqDiff, Nat.reduceBEq, Int.reduceLT, Int.reduceLE, Int.reduceToNat, Int.reduceEq, Int.reduceAdd, Int.reduceSub, Int.reduceMul, Int.reduceNeg, Nat.reduceMul, Nat.reduceSub, Nat.reduceLeDiff, Nat.reduceLT, Int.reduceGT, Int.reduceGE, Int.reduceBEq, Int.reduceBNe, reduceCtorEq, Nat.reduceAdd]
  have w0 : IntKind.i64.wrap 0 = 0 := by decide
  have w1 : IntKind.i64.wrap 1 = 1 := by decide
  have w2 : IntKind.i64.wrap 2 = 2 := by decide
  have d1 : Int.toNat 1 = 1 := rfl
  refine run_rounds 3 ?_
  simp (config := {maxSteps := 1000000}) only [rounds, qLf_1, qLf_2, e1, w0, w1, w2, d1, askE, List.getElem?_cons_zero, List.getElem?_cons_succ, Option.some.injEq, forall_eq', tb41n_e, tbLp_e, i_callNe, Int.natCast_nonneg, Nat.le_refl, Int.le_refl, List.take_succ_cons, List.take_zero, decide_true, decide_false, Bool.and_false, Bool.false_and, zz, zzN, zzF, zzD, zzM, cond_true, cond_false, ↓reduceIte, Nat.reduceEqDiff, Nat.reduceBEq, Int.reduceLT, Int.reduceLE, Int.reduceToNat, Int.reduceEq, Int.reduceAdd, Int.reduceSub, Int.reduceMul, Int.reduceNeg, Nat.reduceMul, Nat.reduceSub, Nat.reduceLeDiff, Nat.reduceLT, Int.reduceGT, Int.reduceGE, Int.reduceBEq, Int.reduceBNe, reduceCtorEq, Nat.reduceAdd]
  intro i3 i4 n1 n2 i5 n3 n4 n5 n6
  simp (config := {maxSteps := 1000000}) only [rounds, qLf_1, qLf_2, e1, n1, n2, n3, n4, n5, n6, w0, w1, w2, d1, askE, List.getElem?_cons_zero, List.getElem?_cons_succ, Option.some.injEq, forall_eq', tb41n_e, tbLp_e, i_callNe, Int.natCast_nonneg, Nat.le_refl, Int.le_refl, List.take_succ_cons, List.take_zero, decide_true, decide_false, Bool.and_false, Bool.false_and, zz, zzN, zzF, zzD, zzM, cond_true, cond_false, ↓reduceIte, Nat.reduceEqDiff, Nat.reduceBEq, Int.reduceLT, Int.reduceLE, Int.reduceToNat, Int.reduceEq, Int.reduceAdd, Int.reduceSub, Int.reduceMul, Int.reduceNeg, Nat.reduceMul, Nat.reduceSub, Nat.reduceLeDiff, Nat.reduceLT, Int.reduceGT, Int.reduceGE, Int.reduceBEq, Int.reduceBNe, reduceCtorEq, Nat.reduceAdd]
def qK2 : List D → Option D
  | [.sl [[.int .i64 20, .int .i64 0, .str [], .int .i64 1, .sl []], [.int .i64 23, .int .i64 0, .str [97], .int .i64 0, .sl []]], .str [32, 43, 32]] => some (.str [49, 32, 43, 32, 97])
  | _ => none
theorem qK2_1 : qK2 [.sl [[.int .i64 20, .int .i64 0, .str [], .int .i64 1, .sl []], [.int .i64 23, .int .i64 0, .str [97], .int .i64 0, .sl []]], .str [32, 43, 32]] = some (.str [49, 32, 43, 32, 97]) := rfl
theorem qK2_ok (args : List D) (d : D) (h : qK2 args = some d) : PCall Tryd.prog 73 args d := by
  unfold qK2 at h
  split at h
  · cases h; exact kids2_c
  · cases h
def tbK2 : Tab := tb11n.addQ 73 qK2
theorem tbK2_q (g : FuncId) (args : List D) : tbK2.q g args = if g = 73 then qK2 args else tb11n.q g args := rfl
theorem tbK2_a : tbK2.a = tb11n.a := rfl
theorem tbK2_c : tbK2.c = tb11n.c := rfl
theorem tbK2_ok : tbK2.ok Tryd.prog := Tab.addQ_ok tb11n_ok qK2_ok
theorem tbK2_e : type_of% (And.intro (And.intro @tbK2_q (And.intro @tbK2_a @tbK2_c)) @tb11n_e) := (And.intro (And.intro @tbK2_q (And.intro @tbK2_a @tbK2_c)) @tb11n_e)

theorem bin_c : PCall Tryd.prog 70 [.agg [.int .i64 26, .int .i64 0, .str [43], .int .i64 0, .sl [[.int .i64 20, .int .i64 0, .str [], .int .i64 1, .sl []], [.int .i64 23, .int .i64 0, .str [97], .int .i64 0, .sl []]]]] (.str [40, 49, 32, 43, 32, 97, 41]) := by
  refine PCall.run tbK2_ok st70n (by simp) fun E => ?_
  have e1 : ([32] ++ [43] ++ [32] : List UInt8) = [32, 43, 32] := rfl
  simp (config := {maxSteps := 1000000}) only [s70n, e1, qK2_1, List.cons_append, List.nil_append, tb41n_e, tbLp_e, tbK2_e, i_callNe, Int.natCast_nonneg, Nat.le_refl, Int.le_refl, List.take_succ_cons, List.take_zero, decide_true, decide_false, Bool.and_false, Bool.false_and, zz, zzN, zzF, zzD, zzM, cond_true, cond_false, ↓reduceIte, Nat.reduceEqDiff, Nat.reduceBEq, Int.reduceLT, Int.reduceLE, Int.reduceToNat, Int.reduceEq, Int.reduceAdd, Int.reduceSub, Int.reduceMul, Int.reduceNeg, Nat.reduceMul, Nat.reduceSub, Nat.reduceLeDiff, Nat.reduceLT, Int.reduceGT, Int.reduceGE, Int.reduceBEq, Int.reduceBNe, reduceCtorEq, Nat.reduceAdd]
def qBn : List D → Option D
  | [.agg [.int .i64 26, .int .i64 0, .str [43], .int .i64 0, .sl [[.int .i64 20, .int .i64 0, .str [], .int .i64 1, .sl []], [.int .i64 23, .int .i64 0, .str [97], .int .i64 0, .sl []]]]] => some (.str [40, 49, 32, 43, 32, 97, 41])
  | _ => none
theorem qBn_1 : qBn [.agg [.int .i64 26, .int .i64 0, .str [43], .int .i64 0, .sl [[.int .i64 20, .int .i64 0, .str [], .int .i64 1, .sl []], [.int .i64 23, .int .i64 0, .str [97], .int .i64 0, .sl []]]]] = some (.str [40, 49, 32, 43, 32, 97, 41]) := rfl
theorem qBn_ok (args : List D) (d : D) (h : qBn args = some d) : PCall Tryd.prog 70 args d := by
  unfold qBn at h
  split at h
  · cases h; exact bin_c
  · cases h
def tbBn : Tab := tbK2.addQ 70 qBn
theorem tbBn_q (g : FuncId) (args : List D) : tbBn.q g args = if g = 70 then qBn args else tbK2.q g args := rfl
theorem tbBn_a : tbBn.a = tbK2.a := rfl
theorem tbBn_c : tbBn.c = tbK2.c := rfl
theorem tbBn_ok : tbBn.ok Tryd.prog := Tab.addQ_ok tbK2_ok qBn_ok
theorem tbBn_e : type_of% (And.intro (And.intro @tbBn_q (And.intro @tbBn_a @tbBn_c)) @tbK2_e) := (And.intro (And.intro @tbBn_q (And.intro @tbBn_a @tbBn_c)) @tbK2_e)

theorem binP_c : PCall Tryd.prog 39 [.agg [.int .i64 26, .int .i64 0, .str [43], .int .i64 0, .sl [[.int .i64 20, .int .i64 0, .str [], .int .i64 1, .sl []], [.int .i64 23, .int .i64 0, .str [97], .int .i64 0, .sl []]]]] (.str [40, 49, 32, 43, 32, 97, 41]) := by
  refine PCall.run tbBn_ok st39n (by simp) fun E => ?_
  simp (config := {maxSteps := 1000000}) only [s39n, qBn_1, tb41n_e, tbLp_e, tbBn_e, i_callNe, Int.natCast_nonneg, Nat.le_refl, Int.le_refl, List.take_succ_cons, List.take_zero, decide_true, decide_false, Bool.and_false, Bool.false_and, zz, zzN, zzF, zzD, zzM, cond_true, cond_false, ↓reduceIte, Nat.reduceEqDiff, Nat.reduceBEq, Int.reduceLT, Int.reduceLE, Int.reduceToNat, Int.reduceEq, Int.reduceAdd, Int.reduceSub, Int.reduceMul, Int.reduceNeg, Nat.reduceMul, Nat.reduceSub, Nat.reduceLeDiff, Nat.reduceLT, Int.reduceGT, Int.reduceGE, Int.reduceBEq, Int.reduceBNe, reduceCtorEq, Nat.reduceAdd]
theorem qBp_ok (args : List D) (d : D) (h : qBn args = some d) : PCall Tryd.prog 39 args d := by
  unfold qBn at h
  split at h
  · cases h; exact binP_c
  · cases h
def tbBp : Tab := tbBn.addQ 39 qBn
theorem tbBp_q (g : FuncId) (args : List D) : tbBp.q g args = if g = 39 then qBn args else tbBn.q g args := rfl
theorem tbBp_a : tbBp.a = tbBn.a := rfl
theorem tbBp_c : tbBp.c = tbBn.c := rfl
theorem tbBp_ok : tbBp.ok Tryd.prog := Tab.addQ_ok tbBn_ok qBp_ok
theorem tbBp_e : type_of% (And.intro (And.intro @tbBp_q (And.intro @tbBp_a @tbBp_c)) @tbBn_e) := (And.intro (And.intro @tbBp_q (And.intro @tbBp_a @tbBp_c)) @tbBn_e)

def n0 : Nd := .mk 26 0 [43] 0 [.mk 20 0 [] 1 [], .mk 23 0 [97] 0 []]
def b0 : List UInt8 := [26, 0, 1, 0, 0, 0, 43, 0, 0, 0, 0, 0, 0, 0, 0, 2, 20, 0, 0, 0, 0, 0, 1, 0, 0, 0, 0, 0, 0, 0, 0, 23, 0, 1, 0, 0, 0, 97, 0, 0, 0, 0, 0, 0, 0, 0, 0]
theorem n0_enc : n0.enc = [.int .i64 26, .int .i64 0, .str [43], .int .i64 0, .sl [[.int .i64 20, .int .i64 0, .str [], .int .i64 1, .sl []], [.int .i64 23, .int .i64 0, .str [97], .int .i64 0, .sl []]]] := by
  simp only [n0, enc_mk, encs_cons, encs_nil]
theorem n0_put : encF n0 = b0 := by
  simp only [n0, encF_mk, encFs_cons, encFs_nil]
  decide
theorem n0_take : decodeF b0 = (n0, 0) := by kernel_rfl
theorem n0_cnt : n0.cnt = 3 := by simp only [n0, cnt_mk, cnts_cons, cnts_nil]
theorem awakeA_c : PCall Tryd.prog 12 [] (.bool true) := by
  refine PCall.run tbBp_ok st12n (by simp) fun E => ?_
  have e1 : q13n [.agg n0.enc] = some (.str b0) := by
    simp only [q13n, decN_enc, n0_put]
    rw [if_pos (by decide)]
  have e2 : q11n [.str b0] = some (.tuple [.agg n0.enc, .int .i64 0]) := by
    simp only [q11n, n0_take, if_true]
  have e3 : q19n [.agg n0.enc, .agg n0.enc] = some (.bool true) := by
    simp only [q19n, qSame, decN_enc, n0_cnt]
    rw [if_pos (by decide), sameN_iff.2 rfl]
  have e4 : q14n [.agg n0.enc] = some (.int .i64 3) := by
    simp only [q14n, decN_enc, n0_cnt]
    rw [if_pos (by decide)]; rfl
  rw [n0_enc] at e1 e2 e3 e4
  simp (config := {maxSteps := 1000000}) only [s12n, e1, e2, e3, e4, qBn_1, tb41n_e, tbLp_e, tbBp_e, i_callNe, Int.natCast_nonneg, Nat.le_refl, Int.le_refl, List.take_succ_cons, List.take_zero, decide_true, decide_false, Bool.and_false, Bool.false_and, zz, zzN, zzF, zzD, zzM, cond_true, cond_false, ↓reduceIte, Nat.reduceEqDiff, Nat.reduceBEq, Int.reduceLT, Int.reduceLE, Int.reduceToNat, Int.reduceEq, Int.reduceAdd, Int.reduceSub, Int.reduceMul, Int.reduceNeg, Nat.reduceMul, Nat.reduceSub, Nat.reduceLeDiff, Nat.reduceLT, Int.reduceGT, Int.reduceGE, Int.reduceBEq, Int.reduceBNe, reduceCtorEq, Nat.reduceAdd]
  intro i1 i2 n1 n2
  simp (config := {maxSteps := 1000000}) only [n1, n2, e1, e2, e3, e4, qBn_1, tb41n_e, tbLp_e, tbBp_e, i_callNe, Int.natCast_nonneg, Nat.le_refl, Int.le_refl, List.take_succ_cons, List.take_zero, decide_true, decide_false, Bool.and_false, Bool.false_and, zz, zzN, zzF, zzD, zzM, cond_true, cond_false, ↓reduceIte, Nat.reduceEqDiff, Nat.reduceBEq, Int.reduceLT, Int.reduceLE, Int.reduceToNat, Int.reduceEq, Int.reduceAdd, Int.reduceSub, Int.reduceMul, Int.reduceNeg, Nat.reduceMul, Nat.reduceSub, Nat.reduceLeDiff, Nat.reduceLT, Int.reduceGT, Int.reduceGE, Int.reduceBEq, Int.reduceBNe, reduceCtorEq, Nat.reduceAdd]
def q12n : List D → Option D
  | [] => if True then some (.bool true) else none
  | _ => none
theorem q12n_ok (args : List D) (d : D) (h : q12n args = some d) : PCall Tryd.prog 12 args d := by
  unfold q12n at h
  split at h
  · split at h
    · cases h; exact awakeA_c
    · cases h
  · cases h

def tb12n : Tab := tbBp.addQ 12 q12n
theorem tb12n_q (g : FuncId) (args : List D) : tb12n.q g args = if g = 12 then q12n args else tbBp.q g args := rfl
theorem tb12n_a : tb12n.a = tbBp.a := rfl
theorem tb12n_c : tb12n.c = tbBp.c := rfl
theorem tb12n_ok : tb12n.ok Tryd.prog := Tab.addQ_ok tbBp_ok q12n_ok
theorem tb12n_e : type_of% (And.intro (And.intro @tb12n_q (And.intro @tb12n_a @tb12n_c)) @tbBp_e) := (And.intro (And.intro @tb12n_q (And.intro @tb12n_a @tb12n_c)) @tbBp_e)

end
end Go.Proofs.YthpgepillaeldaaDoor.Zz
/- The law of trees that are read. -/
namespace Go.Proofs.YthpgepillaeldaaDoor.Zz
noncomputable section
set_option linter.unusedVariables false
set_option linter.unusedSimpArgs false
set_option maxRecDepth 20000
def p4n : Plan := ⟨⟨[], [], [], [], [], []⟩, [], [], false⟩
/-- cupel/cupellaw10.AstReads (1 parameters, 0 captured) -/
def s4n : Stm :=
  .seq (.ops [⟨.mov (.c (.bool false)), (some 2), none, true⟩])
  (.seq (.ops [⟨.mov (.t 0), (some 6), none, true⟩,
     ⟨.qcall (.f 11) [(.t 6)], (some 7), none, false⟩,
     ⟨.mov (.t 7), (some 5), none, true⟩,
     ⟨.extract (.t 5) 0, (some 8), none, true⟩,
     ⟨.extract (.t 5) 1, (some 9), none, true⟩,
     ⟨.alloc [(.int .i64 0), (.int .i64 0), (.str []), (.int .i64 0), .nilsl], (some 3), none, false⟩,
     ⟨.store 5 (.t 3) (.t 8), none, none, false⟩,
     ⟨.mov (.t 9), (some 4), none, true⟩])
  (.seq (.seq (.ops [⟨.qcall (.f 12) [], (some 10), none, false⟩,
      ⟨.un .not (.t 10), (some 11), none, true⟩])
   (.cond (.t 11)
    (.seq (.ops [⟨.mov (.c (.bool false)), (some 2), none, true⟩])
     (.ret))
    (.skip)))
  (.seq (.seq (.ops [⟨.mov (.t 4), (some 12), none, true⟩,
      ⟨.bin .neq (.t 12) (.c (.int .i64 0)), (some 13), none, true⟩])
   (.cond (.t 13)
    (.seq (.ops [⟨.fieldAddr 0 (.t 3), (some 14), none, true⟩,
        ⟨.load none (.t 14), (some 15), none, false⟩,
        ⟨.bin .eql (.t 15) (.c (.int .i64 0)), (some 16), none, true⟩,
        ⟨.mov (.t 16), (some 17), none, true⟩,
        ⟨.fieldAddr 4 (.t 3), (some 18), (some (17, true)), true⟩,
        ⟨.load none (.t 18), (some 19), (some (17, true)), false⟩,
        ⟨.len .sl (.t 19), (some 20), (some (17, true)), false⟩,
        ⟨.bin .eql (.t 20) (.c (.int .i64 0)), (some 21), (some (17, true)), true⟩,
        ⟨.pick (.t 17) (.t 21) (.c (.bool false)), (some 22), none, true⟩,
        ⟨.mov (.t 22), (some 2), none, true⟩])
     (.ret))
    (.skip)))
  (.seq (.ops [⟨.load (some 5) (.t 3), (some 23), none, false⟩,
     ⟨.qcall (.f 13) [(.t 23)], (some 24), none, false⟩,
     ⟨.mov (.t 0), (some 25), none, true⟩,
     ⟨.bin .eql (.t 24) (.t 25), (some 26), none, true⟩,
     ⟨.mov (.t 26), (some 27), none, true⟩,
     ⟨.load (some 5) (.t 3), (some 28), (some (27, true)), false⟩,
     ⟨.qcall (.f 14) [(.t 28)], (some 29), (some (27, true)), false⟩,
     ⟨.bin .leq (.t 29) (.c (.int .i64 2000)), (some 30), (some (27, true)), true⟩,
     ⟨.pick (.t 27) (.t 30) (.c (.bool false)), (some 31), none, true⟩,
     ⟨.mov (.t 31), (some 2), none, true⟩])
  (.ret)))))
theorem st4n : stmOf Tryd.prog 4 p4n = some (s4n, [.tmp 2], 32) := by kernel_rfl

theorem leB_unLe : ∀ s : List UInt8, leB (unLe s) s.length = s
  | [] => rfl
  | b :: s => by
    have e1 : (b.toNat + 256 * unLe s) / 256 = unLe s := by have := b.toNat_lt; omega
    have e2 : UInt8.ofNat (b.toNat + 256 * unLe s) = b := by
      have := b.toNat_lt
      apply UInt8.toNat_inj.1
      simp
    rw [unLe, List.length_cons, leB, e1, e2, leB_unLe s]
theorem bytes_ok {n : Int} {r : Rd} (hn : 0 ≤ n) (h : (rBytes n r).2.err = 0) : r.rest = (rBytes n r).1 ++ (rBytes n r).2.rest ∧ (rBytes n r).1.length = n.toNat := by
  have h0 := bytes_err h
  unfold rBytes at h ⊢
  have g : ¬ n < 0 := by omega
  simp only [if_neg g] at h ⊢
  by_cases c : (r.rest.length : Int) < n
  · simp only [if_pos c] at h
    have := fail_err (e := 4) (by decide) r
    rw [if_neg this] at h
    exact absurd h this
  · simp only [if_neg c, h0, if_true] at h ⊢
    exact ⟨(List.take_append_drop _ _).symm, by rw [List.length_take]; omega⟩
theorem number_ok {m : Nat} {r : Rd} (h : (rNumber m r).2.err = 0) : r.rest = leB (rNumber m r).1 m ++ (rNumber m r).2.rest := by
  obtain ⟨h1, h2⟩ := bytes_ok (by omega) h
  have h3 : leB (rNumber m r).1 m = (rBytes m r).1 := by
    have := leB_unLe (rBytes m r).1
    rw [h2, Int.toNat_natCast] at this
    exact this
  rw [h3]; exact h1
theorem text_ok {most : Nat} {r : Rd} (h : (rText most r).2.err = 0) : r.rest = leB (rText most r).1.length 4 ++ (rText most r).1 ++ (rText most r).2.rest ∧ (rText most r).1.length ≤ most := by
  have h1 := bytes_err h
  have hc : rCount most r = (((rNumber 4 r).1 : Int), (rNumber 4 r).2) ∧ (rNumber 4 r).1 ≤ most := by
    unfold rCount at h1 ⊢
    split at h1
    · exact absurd h1 (fail_err (by decide) _)
    · rename_i c
      rw [if_neg c]
      exact ⟨rfl, by omega⟩
  have h2 : (rNumber 4 r).2.err = 0 := by rw [hc.1] at h1; exact h1
  have h3 := number_ok (m := 4) h2
  have ht : rText most r = rBytes (rNumber 4 r).1 (rNumber 4 r).2 := by unfold rText; rw [hc.1]
  rw [ht] at h ⊢
  obtain ⟨h4, h5⟩ := bytes_ok (by omega) h
  rw [Int.toNat_natCast] at h5
  rw [h5]
  refine ⟨?_, hc.2⟩
  rw [List.append_assoc, ← h4]; exact h3
theorem takeL_err {g : Rd → Int → Nd × Rd × Int} : ∀ {c : Nat} {r : Rd} {left : Int} {acc : List Nd}, (takeL g c r left acc).2.1.err = 0 → r.err = 0 := by
  intro c
  induction c with
  | zero => intro r left acc h; exact h
  | succ c ih =>
    intro r left acc h
    unfold takeL at h
    by_cases e : r.err = 0
    · exact e
    · rw [if_neg e] at h; exact h
/-- What was taken is what would be put. -/
def tookN (r : Rd) (left : Int) (z : Nd × Rd × Int) : Prop := r.rest = encF z.1 ++ z.2.1.rest ∧ z.2.2 = left - z.1.cnt ∧ (encF z.1).length ≤ 79 * z.1.cnt
theorem takeL_took {g : Rd → Int → Nd × Rd × Int} {F : Int} (hl : ∀ r l, 0 ≤ l → (g r l).2.1.err = 0 → 0 ≤ (g r l).2.2) (hg : ∀ r l, 0 ≤ l → l < F → (g r l).2.1.err = 0 → tookN r l (g r l)) (hs : ∀ r l, (g r l).2.1.err = 0 → r.err = 0) :
    ∀ (c : Nat) (r : Rd) (left : Int) (acc : List Nd), (r.err = 0 → 0 ≤ left) → left < F → (takeL g c r left acc).2.1.err = 0 → ∃ l, (takeL g c r left acc).1 = acc ++ l ∧ l.length = c ∧ r.rest = encFs l ++ (takeL g c r left acc).2.1.rest ∧ (takeL g c r left acc).2.2 = left - Nd.cnts l ∧ (encFs l).length ≤ 79 * Nd.cnts l
  | 0, r, left, acc, _, _, h => ⟨[], by simp [takeL, encFs_nil, cnts_nil]⟩
  | c + 1, r, left, acc, h0, hF, h => by
    unfold takeL at h ⊢
    by_cases e : r.err = 0
    · rw [if_pos e] at h ⊢
      have e1 := takeL_err h
      have k1 := hg r left (h0 e) hF e1
      have hcp := cnt_pos (g r left).1
      obtain ⟨l, q1n, q2n, q3n, q4n, q5n⟩ := takeL_took hl hg hs c (g r left).2.1 (g r left).2.2 (acc ++ [(g r left).1]) (hl r left (h0 e)) (by rw [k1.2.1]; omega) h
      refine ⟨(g r left).1 :: l, by rw [q1n]; simp, by simp [q2n], ?_, ?_, ?_⟩
      · rw [encFs_cons, List.append_assoc, ← q3n]; exact k1.1
      · rw [q4n, k1.2.1, cnts_cons]; omega
      · rw [encFs_cons, cnts_cons, List.length_append]; have := k1.2.2; omega
    · rw [if_neg e] at h
      exact absurd h e
theorem takeF_zero (r : Rd) (left deep : Int) : takeF 0 r left deep = (nd0, r, left) := by rw [takeF]
theorem takeF_succ (f : Nat) (r : Rd) (left deep : Int) : takeF (f + 1) r left deep = finF r left deep (takeL (fun r l => takeF f r l (deep + 1)) (hc r left deep).1 (hc r left deep).2 (left - 1) []) := by rw [takeF]
theorem finF_rd (r : Rd) (left deep : Int) (z : List Nd × Rd × Int) : (finF r left deep z).2.1 = z.2.1 := rfl
theorem head_rd {r : Rd} {left deep : Int} (h : (hc r left deep).2.err = 0) : r.err = 0 := by
  have h1 := number_err (number_err (text_err (number_err (number_err h))))
  unfold headF at h1
  split at h1
  · exact absurd h1 (fail_err (by decide) _)
  · exact h1
theorem takeF_err (f : Nat) (r : Rd) (left deep : Int) (h : (takeF f r left deep).2.1.err = 0) : r.err = 0 := by
  cases f with
  | zero => rw [takeF_zero] at h; exact h
  | succ f =>
    rw [takeF_succ, finF_rd] at h
    exact head_rd (takeL_err h)
theorem uB_nat {k m : Nat} (h : k < 18446744073709551616) : uB k m = leB k m := by
  unfold uB
  have : ((k : Int) % 18446744073709551616).toNat = k := by omega
  rw [this]
theorem uB_wrap {k m : Nat} (h : k < 18446744073709551616) : uB (IntKind.i64.wrap k) m = leB k m := by
  unfold uB
  obtain ⟨j, e, _, _⟩ : ∃ j : Int, IntKind.i64.wrap (k : Int) = k + 18446744073709551616 * j ∧ True ∧ True := by
    by_cases c : k < 9223372036854775808
    · exact ⟨0, by rw [wrap_i64 (by omega) (by omega)]; omega, trivial, trivial⟩
    · refine ⟨-1, ?_, trivial, trivial⟩
      have : IntKind.i64.wrap (k : Int) = k - 18446744073709551616 := by
        simp [IntKind.wrap, IntKind.bits, IntKind.signed]
        omega
      omega
  have : (IntKind.i64.wrap (k : Int) % 18446744073709551616).toNat = k := by rw [e]; omega
  rw [this]
theorem takeF_took (f : Nat) : ∀ (r : Rd) (left deep : Int), 0 ≤ left → left < f → (takeF f r left deep).2.1.err = 0 → tookN r left (takeF f r left deep) := by
  induction f with
  | zero => intro r left deep h0 h1 h; omega
  | succ f ih =>
    intro r left deep h0 h1 h
    rw [takeF_succ] at h ⊢
    rw [finF_rd] at h
    obtain ⟨l, q1n, q2n, q3n, q4n, q5n⟩ := takeL_took (F := f) (fun r l a b => (takeF_left f r l (deep + 1)).1 a b) (fun r l a b c => ih r l (deep + 1) a b c) (fun r l a => takeF_err f r l (deep + 1) a) (hc r left deep).1 (hc r left deep).2 (left - 1) [] head_err (by omega) h
    have e5 : (hc r left deep).2.err = 0 := takeL_err h
    generalize takeL (fun r l => takeF f r l (deep + 1)) (hc r left deep).1 (hc r left deep).2 (left - 1) [] = z at *
    have e4 : (hn r left deep).2.err = 0 := number_err e5
    have e3 : (hs r left deep).2.err = 0 := number_err e4
    have e2 : (ht r left deep).2.err = 0 := text_err e3
    have e1 := number_err e2
    have e0 : (headF r left deep).err = 0 := number_err e1
    have dp1 : rNumber ((1 : Nat) : Int) (headF r left deep) = hk r left deep := rfl
    have p1n : (headF r left deep).rest = leB (hk r left deep).1 1 ++ (hk r left deep).2.rest := by
      have := number_ok (m := 1) (r := headF r left deep) (by rw [dp1]; exact e1)
      rwa [dp1] at this
    have dp2 : rNumber ((1 : Nat) : Int) ((hk r left deep).2) = ht r left deep := rfl
    have p2n : (hk r left deep).2.rest = leB (ht r left deep).1 1 ++ (ht r left deep).2.rest := by
      have := number_ok (m := 1) (r := (hk r left deep).2) (by rw [dp2]; exact e2)
      rwa [dp2] at this
    have dp3 : rText ((64 : Nat) : Int) ((ht r left deep).2) = hs r left deep := rfl
    have p3n : (ht r left deep).2.rest = leB (hs r left deep).1.length 4 ++ (hs r left deep).1 ++ (hs r left deep).2.rest ∧ (hs r left deep).1.length ≤ 64 := by
      have := text_ok (most := 64) (r := (ht r left deep).2) (by rw [dp3]; exact e3)
      rwa [dp3] at this
    have dp4 : rNumber ((8 : Nat) : Int) ((hs r left deep).2) = hn r left deep := rfl
    have p4n : (hs r left deep).2.rest = leB (hn r left deep).1 8 ++ (hn r left deep).2.rest := by
      have := number_ok (m := 8) (r := (hs r left deep).2) (by rw [dp4]; exact e4)
      rwa [dp4] at this
    have dp5 : rNumber ((1 : Nat) : Int) ((hn r left deep).2) = hc r left deep := rfl
    have p5n : (hn r left deep).2.rest = leB (hc r left deep).1 1 ++ (hc r left deep).2.rest := by
      have := number_ok (m := 1) (r := (hn r left deep).2) (by rw [dp5]; exact e5)
      rwa [dp5] at this
    have b1 : (hk r left deep).1 < 256 := rNumber_lt 1 _
    have b2 : (ht r left deep).1 < 256 := rNumber_lt 1 _
    have b4 : (hn r left deep).1 < 18446744073709551616 := rNumber_lt 8 _
    have hh : headF r left deep = r := by
      unfold headF at e0 ⊢
      split at e0
      · exact absurd e0 (fail_err (by decide) _)
      · rename_i c; rw [if_neg c]
    rw [hh] at p1n
    have hF : finF r left deep z = (.mk (hk r left deep).1 (ht r left deep).1 (hs r left deep).1 (IntKind.i64.wrap ((hn r left deep).1 : Int)) l, z.2.1, z.2.2) := by
      unfold finF
      rw [if_pos h, q1n, List.nil_append]
    rw [hF]
    refine ⟨?_, ?_, ?_⟩
    · simp only [encF_mk]
      rw [uB_nat (by omega), uB_nat (by omega), uB_wrap b4, q2n]
      rw [p1n, p2n, p3n.1, p4n, p5n, q3n]
      simp only [List.append_assoc]
    · simp only [cnt_mk]
      rw [q4n]; omega
    · simp only [encF_mk, cnt_mk, List.length_append, uB, len_leB]
      have := p3n.2
      omega
theorem end_ok {r : Rd} (h : (rEnd r).err = 0) : r.err = 0 ∧ r.rest = [] := by
  unfold rEnd at h
  split at h
  · exact absurd h (fail_err (by decide) _)
  · rename_i c
    exact ⟨h, List.length_eq_zero_iff.1 (by omega)⟩
theorem decode_law (s : List UInt8) : ((decodeF s).2 = 0 ∧ encF (decodeF s).1 = s ∧ (decodeF s).1.cnt ≤ 2000 ∧ s.length ≤ 158000) ∨ ((decodeF s).2 ≠ 0 ∧ (decodeF s).1 = nd0) := by
  have kk := takeF_took 2001 ⟨s, 0, 0⟩ 2000 0 (by omega) (by omega)
  have kl := (takeF_left 2001 ⟨s, 0, 0⟩ 2000 0).1 (by omega)
  unfold decodeF
  generalize takeF 2001 ⟨s, 0, 0⟩ 2000 0 = z at kk kl ⊢
  by_cases c : (rEnd z.2.1).err = 0
  · left
    rw [if_pos c]
    obtain ⟨e1, e2⟩ := end_ok c
    obtain ⟨k1, k2, k3⟩ := kk e1
    have k4 := kl e1
    rw [e2, List.append_nil] at k1
    simp only at k1 ⊢
    rw [k2] at k4
    refine ⟨trivial, k1.symm, by omega, ?_⟩
    rw [k1]; omega
  · right
    rw [if_neg c]
    exact ⟨c, rfl⟩
theorem astReads_c (s : List UInt8) : PCall Tryd.prog 4 [.str s] (.bool true) := by
  refine PCall.run tb12n_ok st4n (by simp) fun E => ?_
  have e1 : q11n [.str s] = some (.tuple [.agg (decodeF s).1.enc, .int .i64 (decodeF s).2]) := by simp only [q11n, if_true]
  have e0 : q12n [] = some (.bool true) := by simp only [q12n, if_true]
  rcases decode_law s with ⟨h1, h2, h3, h4⟩ | ⟨h1, h2⟩
  · generalize decodeF s = z at *
    obtain ⟨n, e⟩ := z
    simp only at h1 h2 h3 e1
    subst h1
    have e2 : q13n [.agg n.enc] = some (.str s) := by
      simp only [q13n, decN_enc, h2]
      rw [if_pos (by omega)]
    have e3 : q14n [.agg n.enc] = some (.int .i64 n.cnt) := by
      simp only [q14n, decN_enc]
      rw [if_pos (by omega)]
    have hc : ((n.cnt : Int) ≤ 2000) = True := eq_true (by omega)
    generalize n.cnt = k at *
    clear h2
    obtain ⟨nk, nt, ns, nn, nl⟩ := n
    rw [enc_mk] at *
    simp (config := {maxSteps := 1000000}) only [s4n, e0, e1, e2, e3, hc, beq_self_eq_true, tb41n_e, tbLp_e, tb12n_e, i_callNe, Int.natCast_nonneg, Nat.le_refl, Int.le_refl, List.take_succ_cons, List.take_zero, decide_true, decide_false, Bool.and_false, Bool.false_and, zz, zzN, zzF, zzD, zzM, cond_true, cond_false, ↓reduceIte, Nat.reduceEqDiff, Nat.reduceBEq, Int.reduceLT, Int.reduceLE, Int.reduceToNat, Int.reduceEq, Int.reduceAdd, Int.reduceSub, Int.reduceMul, Int.reduceNeg, Nat.reduceMul, Nat.reduceSub, Nat.reduceLeDiff, Nat.reduceLT, Int.reduceGT, Int.reduceGE, Int.reduceBEq, Int.reduceBNe, reduceCtorEq, Nat.reduceAdd]
  · generalize decodeF s = z at *
    obtain ⟨n, e⟩ := z
    simp only at h1 h2 e1
    subst h2
    have hc : (e != 0) = true := by simpa using h1
    simp (config := {maxSteps := 1000000}) only [s4n, e0, e1, hc, nd0, enc_mk, encs_nil, tb41n_e, tbLp_e, tb12n_e, i_callNe, Int.natCast_nonneg, Nat.le_refl, Int.le_refl, List.take_succ_cons, List.take_zero, decide_true, decide_false, Bool.and_false, Bool.false_and, zz, zzN, zzF, zzD, zzM, cond_true, cond_false, ↓reduceIte, Nat.reduceEqDiff, Nat.reduceBEq, Int.reduceLT, Int.reduceLE, Int.reduceToNat, Int.reduceEq, Int.reduceAdd, Int.reduceSub, Int.reduceMul, Int.reduceNeg, Nat.reduceMul, Nat.reduceSub, Nat.reduceLeDiff, Nat.reduceLT, Int.reduceGT, Int.reduceGE, Int.reduceBEq, Int.reduceBNe, reduceCtorEq, Nat.reduceAdd]
end
end Go.Proofs.YthpgepillaeldaaDoor.Zz
