/- Contracts: the document's turn. -/
import Derived.Test.YtiilnakenlegmaaZK4
namespace Go.Proofs.Ytiilnakenlegmaa.Zz
set_option linter.unusedVariables false
set_option linter.unusedSimpArgs false
set_option maxRecDepth 20000
def p26 : Plan := ⟨⟨[], [], [], [], [], []⟩, [(14, [0, 1, 2, 3, 4, 5, 6, 7, 8, 9, 10, 11, 12]), (28, [0, 1, 2, 3, 4, 5, 6, 7, 8, 9, 10, 11, 12, 13, 14, 15, 16, 17, 18, 19, 20, 21, 22, 23, 24, 25, 26, 27, 28, 29, 30]), (29, [0, 1, 2, 3, 4, 5, 6])]⟩
/-- cupel/cupelref01.round (2 parameters, 0 captured) -/
def s26 : Stm :=
  .seq (.ops [⟨.box (.t 0), (some 2), none, false⟩,
     ⟨.alloc [(.int .u64 0), (.int .u64 0), (.int .u64 0), (.int .u64 0), (.int .u64 0), (.int .u64 0), (.int .u64 0), (.int .u64 0), (.int .u64 0), (.int .u64 0), (.int .u64 0), (.int .u64 0), (.int .u64 0), (.int .u64 0), (.int .u64 0), (.int .u64 0), (.int .u64 0), (.int .u64 0), (.int .u64 0), (.int .u64 0), (.int .u64 0), (.int .u64 0), (.int .u64 0), (.int .u64 0), (.int .u64 0)], (some 4), none, false⟩])
  (.seq (.ops [⟨.load (some 25) (.t 2), (some 17), none, false⟩,
     ⟨.build [(.int .u64 0), (.int .u64 0), (.int .u64 0), (.int .u64 0), (.int .u64 0), (.int .u64 0), (.int .u64 0), (.int .u64 0), (.int .u64 0), (.int .u64 0), (.int .u64 0), (.int .u64 0), (.int .u64 0), (.int .u64 0), (.int .u64 0), (.int .u64 0), (.int .u64 0), (.int .u64 0), (.int .u64 0), (.int .u64 0), (.int .u64 0), (.int .u64 0), (.int .u64 0), (.int .u64 0), (.int .u64 0)] [], (some 18), none, true⟩,
     ⟨.alloc [(.int .u64 0), (.int .u64 0), (.int .u64 0), (.int .u64 0), (.int .u64 0), (.int .u64 0), (.int .u64 0), (.int .u64 0), (.int .u64 0), (.int .u64 0), (.int .u64 0), (.int .u64 0), (.int .u64 0), (.int .u64 0), (.int .u64 0), (.int .u64 0), (.int .u64 0), (.int .u64 0), (.int .u64 0), (.int .u64 0), (.int .u64 0), (.int .u64 0), (.int .u64 0), (.int .u64 0), (.int .u64 0)], (some 5), none, false⟩,
     ⟨.alloc [(.int .u64 0), (.int .u64 0), (.int .u64 0), (.int .u64 0), (.int .u64 0), (.int .u64 0), (.int .u64 0), (.int .u64 0), (.int .u64 0), (.int .u64 0), (.int .u64 0), (.int .u64 0), (.int .u64 0), (.int .u64 0), (.int .u64 0), (.int .u64 0), (.int .u64 0), (.int .u64 0), (.int .u64 0), (.int .u64 0), (.int .u64 0), (.int .u64 0), (.int .u64 0), (.int .u64 0), (.int .u64 0)], (some 6), none, false⟩,
     ⟨.store 25 (.t 5) (.t 17), none, none, false⟩,
     ⟨.store 25 (.t 6) (.t 18), none, none, false⟩])
  (.seq (.seq (.ops [⟨.mov (.c (.int .i64 0)), (some 7), none, true⟩])
   (.block 0 (.loop (.seq (.seq (.ops [⟨.mov (.t 7), (some 19), none, true⟩,
         ⟨.bin .lss (.t 19) (.c (.int .i64 5)), (some 20), none, true⟩])
      (.cond (.t 20)
       (.skip)
       (.exit 0)))
     (.seq (.block 1 (.seq (.ops [⟨.mov (.c (.int .u64 0)), (some 8), none, true⟩,
          ⟨.mov (.c (.int .u64 0)), (some 9), none, true⟩])
       (.seq (.seq (.ops [⟨.mov (.c (.int .i64 0)), (some 10), none, true⟩])
        (.block 2 (.loop (.seq (.seq (.ops [⟨.mov (.t 10), (some 23), none, true⟩,
              ⟨.bin .lss (.t 23) (.c (.int .i64 5)), (some 24), none, true⟩])
           (.cond (.t 24)
            (.skip)
            (.exit 2)))
          (.seq (.block 3 (.seq (.ops [⟨.mov (.t 8), (some 27), none, true⟩,
               ⟨.mov (.t 7), (some 28), none, true⟩,
               ⟨.bin .add (.t 28) (.c (.int .i64 4)), (some 29), none, true⟩,
               ⟨.bin .rem (.t 29) (.c (.int .i64 5)), (some 30), none, true⟩,
               ⟨.mov (.t 10), (some 31), none, true⟩,
               ⟨.bin .mul (.c (.int .i64 5)) (.t 31), (some 32), none, true⟩,
               ⟨.bin .add (.t 30) (.t 32), (some 33), none, true⟩,
               ⟨.indexAddrA 25 1 (.t 2) (.t 33), (some 34), none, true⟩,
               ⟨.load none (.t 34), (some 35), none, false⟩,
               ⟨.bin .xor (.t 27) (.t 35), (some 36), none, true⟩,
               ⟨.mov (.t 36), (some 8), none, true⟩])
            (.ops [⟨.mov (.t 9), (some 37), none, true⟩,
              ⟨.mov (.t 7), (some 38), none, true⟩,
              ⟨.bin .add (.t 38) (.c (.int .i64 1)), (some 39), none, true⟩,
              ⟨.bin .rem (.t 39) (.c (.int .i64 5)), (some 40), none, true⟩,
              ⟨.mov (.t 10), (some 41), none, true⟩,
              ⟨.bin .mul (.c (.int .i64 5)) (.t 41), (some 42), none, true⟩,
              ⟨.bin .add (.t 40) (.t 42), (some 43), none, true⟩,
              ⟨.indexAddrA 25 1 (.t 2) (.t 43), (some 44), none, true⟩,
              ⟨.load none (.t 44), (some 45), none, false⟩,
              ⟨.bin .xor (.t 37) (.t 45), (some 46), none, true⟩,
              ⟨.mov (.t 46), (some 9), none, true⟩])))
          (.ops [⟨.mov (.t 10), (some 25), none, true⟩,
            ⟨.bin .add (.t 25) (.c (.int .i64 1)), (some 26), none, true⟩,
            ⟨.mov (.t 26), (some 10), none, true⟩]))))))
       (.seq (.ops [⟨.mov (.c (.int .i64 0)), (some 11), none, true⟩])
       (.block 4 (.loop (.seq (.seq (.ops [⟨.mov (.t 11), (some 47), none, true⟩,
             ⟨.bin .lss (.t 47) (.c (.int .i64 5)), (some 48), none, true⟩])
          (.cond (.t 48)
           (.skip)
           (.exit 4)))
         (.seq (.block 5 (.ops [⟨.mov (.t 7), (some 51), none, true⟩,
             ⟨.mov (.t 11), (some 52), none, true⟩,
             ⟨.bin .mul (.c (.int .i64 5)) (.t 52), (some 53), none, true⟩,
             ⟨.bin .add (.t 51) (.t 53), (some 54), none, true⟩,
             ⟨.indexAddrA 25 1 (.t 5) (.t 54), (some 55), none, true⟩,
             ⟨.load none (.t 55), (some 56), none, false⟩,
             ⟨.mov (.t 8), (some 57), none, true⟩,
             ⟨.mov (.t 9), (some 58), none, true⟩,
             ⟨.qcall (.f 29) [(.t 58), (.c (.int .i64 1))], (some 59), none, false⟩,
             ⟨.bin .xor (.t 57) (.t 59), (some 60), none, true⟩,
             ⟨.bin .xor (.t 56) (.t 60), (some 61), none, true⟩,
             ⟨.indexAddrA 25 1 (.t 5) (.t 54), (some 62), none, true⟩,
             ⟨.store 1 (.t 62) (.t 61), none, none, false⟩]))
         (.ops [⟨.mov (.t 11), (some 49), none, true⟩,
           ⟨.bin .add (.t 49) (.c (.int .i64 1)), (some 50), none, true⟩,
           ⟨.mov (.t 50), (some 11), none, true⟩])))))))))
     (.ops [⟨.mov (.t 7), (some 21), none, true⟩,
       ⟨.bin .add (.t 21) (.c (.int .i64 1)), (some 22), none, true⟩,
       ⟨.mov (.t 22), (some 7), none, true⟩]))))))
  (.seq (.ops [⟨.indexAddrA 25 1 (.t 5) (.c (.int .i64 0)), (some 63), none, true⟩,
     ⟨.load none (.t 63), (some 64), none, false⟩,
     ⟨.indexAddrA 25 1 (.t 6) (.c (.int .i64 0)), (some 65), none, true⟩,
     ⟨.store 1 (.t 65) (.t 64), none, none, false⟩])
  (.seq (.ops [⟨.mov (.c (.int .i64 1)), (some 12), none, true⟩,
     ⟨.mov (.c (.int .i64 0)), (some 13), none, true⟩])
  (.seq (.seq (.ops [⟨.mov (.c (.int .i64 0)), (some 14), none, true⟩])
   (.block 6 (.loop (.seq (.seq (.ops [⟨.mov (.t 14), (some 66), none, true⟩,
         ⟨.bin .lss (.t 66) (.c (.int .i64 24)), (some 67), none, true⟩])
      (.cond (.t 67)
       (.skip)
       (.exit 6)))
     (.seq (.block 7 (.seq (.ops [⟨.mov (.t 13), (some 70), none, true⟩,
          ⟨.mov (.t 12), (some 71), none, true⟩,
          ⟨.bin .mul (.c (.int .i64 2)) (.t 71), (some 72), none, true⟩,
          ⟨.mov (.t 13), (some 73), none, true⟩,
          ⟨.bin .mul (.c (.int .i64 3)) (.t 73), (some 74), none, true⟩,
          ⟨.bin .add (.t 72) (.t 74), (some 75), none, true⟩,
          ⟨.bin .rem (.t 75) (.c (.int .i64 5)), (some 76), none, true⟩,
          ⟨.bin .mul (.c (.int .i64 5)) (.t 76), (some 77), none, true⟩,
          ⟨.bin .add (.t 70) (.t 77), (some 78), none, true⟩,
          ⟨.mov (.t 12), (some 79), none, true⟩,
          ⟨.mov (.t 13), (some 80), none, true⟩,
          ⟨.bin .mul (.c (.int .i64 5)) (.t 80), (some 81), none, true⟩,
          ⟨.bin .add (.t 79) (.t 81), (some 82), none, true⟩,
          ⟨.indexAddrA 25 1 (.t 5) (.t 82), (some 83), none, true⟩,
          ⟨.load none (.t 83), (some 84), none, false⟩,
          ⟨.mov (.t 14), (some 85), none, true⟩,
          ⟨.bin .add (.t 85) (.c (.int .i64 1)), (some 86), none, true⟩,
          ⟨.mov (.t 14), (some 87), none, true⟩,
          ⟨.bin .add (.t 87) (.c (.int .i64 2)), (some 88), none, true⟩,
          ⟨.bin .mul (.t 86) (.t 88), (some 89), none, true⟩,
          ⟨.bin .quo (.t 89) (.c (.int .i64 2)), (some 90), none, true⟩,
          ⟨.bin .rem (.t 90) (.c (.int .i64 64)), (some 91), none, true⟩,
          ⟨.qcall (.f 29) [(.t 84), (.t 91)], (some 92), none, false⟩,
          ⟨.indexAddrA 25 1 (.t 6) (.t 78), (some 93), none, true⟩,
          ⟨.store 1 (.t 93) (.t 92), none, none, false⟩])
       (.ops [⟨.mov (.t 13), (some 94), none, true⟩,
         ⟨.mov (.t 12), (some 95), none, true⟩,
         ⟨.bin .mul (.c (.int .i64 2)) (.t 95), (some 96), none, true⟩,
         ⟨.mov (.t 13), (some 97), none, true⟩,
         ⟨.bin .mul (.c (.int .i64 3)) (.t 97), (some 98), none, true⟩,
         ⟨.bin .add (.t 96) (.t 98), (some 99), none, true⟩,
         ⟨.bin .rem (.t 99) (.c (.int .i64 5)), (some 100), none, true⟩,
         ⟨.mov (.t 94), (some 12), none, true⟩,
         ⟨.mov (.t 100), (some 13), none, true⟩])))
     (.ops [⟨.mov (.t 14), (some 68), none, true⟩,
       ⟨.bin .add (.t 68) (.c (.int .i64 1)), (some 69), none, true⟩,
       ⟨.mov (.t 69), (some 14), none, true⟩]))))))
  (.seq (.seq (.ops [⟨.mov (.c (.int .i64 0)), (some 15), none, true⟩])
   (.block 8 (.loop (.seq (.seq (.ops [⟨.mov (.t 15), (some 101), none, true⟩,
         ⟨.bin .lss (.t 101) (.c (.int .i64 5)), (some 102), none, true⟩])
      (.cond (.t 102)
       (.skip)
       (.exit 8)))
     (.seq (.block 9 (.seq (.ops [⟨.mov (.c (.int .i64 0)), (some 16), none, true⟩])
       (.block 10 (.loop (.seq (.seq (.ops [⟨.mov (.t 16), (some 105), none, true⟩,
             ⟨.bin .lss (.t 105) (.c (.int .i64 5)), (some 106), none, true⟩])
          (.cond (.t 106)
           (.skip)
           (.exit 10)))
         (.seq (.block 11 (.ops [⟨.mov (.t 16), (some 109), none, true⟩,
             ⟨.mov (.t 15), (some 110), none, true⟩,
             ⟨.bin .mul (.c (.int .i64 5)) (.t 110), (some 111), none, true⟩,
             ⟨.bin .add (.t 109) (.t 111), (some 112), none, true⟩,
             ⟨.mov (.t 16), (some 113), none, true⟩,
             ⟨.mov (.t 15), (some 114), none, true⟩,
             ⟨.bin .mul (.c (.int .i64 5)) (.t 114), (some 115), none, true⟩,
             ⟨.bin .add (.t 113) (.t 115), (some 116), none, true⟩,
             ⟨.indexAddrA 25 1 (.t 6) (.t 116), (some 117), none, true⟩,
             ⟨.load none (.t 117), (some 118), none, false⟩,
             ⟨.mov (.t 16), (some 119), none, true⟩,
             ⟨.bin .add (.t 119) (.c (.int .i64 1)), (some 120), none, true⟩,
             ⟨.bin .rem (.t 120) (.c (.int .i64 5)), (some 121), none, true⟩,
             ⟨.mov (.t 15), (some 122), none, true⟩,
             ⟨.bin .mul (.c (.int .i64 5)) (.t 122), (some 123), none, true⟩,
             ⟨.bin .add (.t 121) (.t 123), (some 124), none, true⟩,
             ⟨.indexAddrA 25 1 (.t 6) (.t 124), (some 125), none, true⟩,
             ⟨.load none (.t 125), (some 126), none, false⟩,
             ⟨.bin .sub (.c (.int .u64 18446744073709551615)) (.t 126), (some 127), none, true⟩,
             ⟨.mov (.t 16), (some 128), none, true⟩,
             ⟨.bin .add (.t 128) (.c (.int .i64 2)), (some 129), none, true⟩,
             ⟨.bin .rem (.t 129) (.c (.int .i64 5)), (some 130), none, true⟩,
             ⟨.mov (.t 15), (some 131), none, true⟩,
             ⟨.bin .mul (.c (.int .i64 5)) (.t 131), (some 132), none, true⟩,
             ⟨.bin .add (.t 130) (.t 132), (some 133), none, true⟩,
             ⟨.indexAddrA 25 1 (.t 6) (.t 133), (some 134), none, true⟩,
             ⟨.load none (.t 134), (some 135), none, false⟩,
             ⟨.bin .and (.t 127) (.t 135), (some 136), none, true⟩,
             ⟨.bin .xor (.t 118) (.t 136), (some 137), none, true⟩,
             ⟨.indexAddrA 25 1 (.t 5) (.t 112), (some 138), none, true⟩,
             ⟨.store 1 (.t 138) (.t 137), none, none, false⟩]))
         (.ops [⟨.mov (.t 16), (some 107), none, true⟩,
           ⟨.bin .add (.t 107) (.c (.int .i64 1)), (some 108), none, true⟩,
           ⟨.mov (.t 108), (some 16), none, true⟩])))))))
     (.ops [⟨.mov (.t 15), (some 103), none, true⟩,
       ⟨.bin .add (.t 103) (.c (.int .i64 1)), (some 104), none, true⟩,
       ⟨.mov (.t 104), (some 15), none, true⟩]))))))
  (.seq (.ops [⟨.indexAddrA 25 1 (.t 5) (.c (.int .i64 0)), (some 139), none, true⟩,
     ⟨.load none (.t 139), (some 140), none, false⟩,
     ⟨.mov (.t 1), (some 141), none, true⟩,
     ⟨.qcall (.f 30) [(.t 141)], (some 142), none, false⟩,
     ⟨.bin .xor (.t 140) (.t 142), (some 143), none, true⟩,
     ⟨.indexAddrA 25 1 (.t 5) (.c (.int .i64 0)), (some 144), none, true⟩,
     ⟨.store 1 (.t 144) (.t 143), none, none, false⟩])
  (.seq (.ops [⟨.load (some 25) (.t 5), (some 145), none, false⟩,
     ⟨.store 25 (.t 4) (.t 145), none, none, false⟩])
  (.ret)))))))))
theorem st26 : stmOf Try.prog 26 p26 = some (s26, [.cell 4 (some 25)], 146) := by kernel_rfl

def p10 : Plan := ⟨⟨[], [], [], [], [], []⟩, []⟩
/-- cupel/cupelref01.Turn (1 parameters, 0 captured) -/
def s10 : Stm :=
  .seq (.ops [⟨.box (.t 0), (some 1), none, false⟩,
     ⟨.alloc [(.int .u64 0), (.int .u64 0), (.int .u64 0), (.int .u64 0), (.int .u64 0), (.int .u64 0), (.int .u64 0), (.int .u64 0), (.int .u64 0), (.int .u64 0), (.int .u64 0), (.int .u64 0), (.int .u64 0), (.int .u64 0), (.int .u64 0), (.int .u64 0), (.int .u64 0), (.int .u64 0), (.int .u64 0), (.int .u64 0), (.int .u64 0), (.int .u64 0), (.int .u64 0), (.int .u64 0), (.int .u64 0)], (some 2), none, false⟩])
  (.seq (.seq (.ops [⟨.mov (.c (.int .i64 0)), (some 3), none, true⟩])
   (.block 0 (.loop (.seq (.seq (.ops [⟨.mov (.t 3), (some 4), none, true⟩,
         ⟨.bin .lss (.t 4) (.c (.int .i64 24)), (some 5), none, true⟩])
      (.cond (.t 5)
       (.skip)
       (.exit 0)))
     (.seq (.block 1 (.ops [⟨.load (some 25) (.t 1), (some 8), none, false⟩,
         ⟨.mov (.t 3), (some 9), none, true⟩,
         ⟨.qcall (.f 26) [(.t 8), (.t 9)], (some 10), none, false⟩,
         ⟨.store 25 (.t 1) (.t 10), none, none, false⟩]))
     (.ops [⟨.mov (.t 3), (some 6), none, true⟩,
       ⟨.bin .add (.t 6) (.c (.int .i64 1)), (some 7), none, true⟩,
       ⟨.mov (.t 7), (some 3), none, true⟩]))))))
  (.seq (.ops [⟨.load (some 25) (.t 1), (some 11), none, false⟩,
     ⟨.store 25 (.t 2) (.t 11), none, none, false⟩])
  (.ret)))
theorem st10 : stmOf Try.prog 10 p10 = some (s10, [.cell 2 (some 25)], 12) := by kernel_rfl

theorem wr (n : Nat) (h : n < 9223372036854775808) : IntKind.i64.wrap (n : Int) = (n : Int) := wrap_i64 (by omega) (by omega)
theorem wadd (a b : Nat) (h : a + b < 9223372036854775808) : IntKind.i64.wrap ((a : Int) + (b : Int)) = ((a + b : Nat) : Int) := by rw [← Int.natCast_add]; exact wr _ h
theorem wmul (a b : Nat) (h : a * b < 9223372036854775808) : IntKind.i64.wrap ((a : Int) * (b : Int)) = ((a * b : Nat) : Int) := by rw [← Int.natCast_mul]; exact wr _ h
def parX (s : List W64) (c : Nat) (k : Nat) : W64 := (List.range k).foldl (fun v j => v ^^^ s.getD (c + 5 * j) 0) 0
def thB (v : W64) (x : Nat) (a : List W64) (k : Nat) : List W64 := (List.range k).foldl (fun a j => a.set (x + 5 * j) (a.getD (x + 5 * j) 0 ^^^ v)) a
def thV (s : List W64) (x : Nat) : W64 := parX s ((x + 4) % 5) 5 ^^^ rotL (parX s ((x + 1) % 5) 5) 1
def thF (s : List W64) (k : Nat) : List W64 := (List.range k).foldl (fun a x => thB (thV s x) x a 5) s
def wkS (p : Nat × Nat) : Nat × Nat := (p.2, (2 * p.1 + 3 * p.2) % 5)
def wk : Nat → Nat × Nat
  | 0 => (1, 0)
  | t + 1 => wkS (wk t)
def piS (a b : List W64) (t : Nat) : List W64 := b.set ((wk t).2 + 5 * ((2 * (wk t).1 + 3 * (wk t).2) % 5)) (rotL (a.getD ((wk t).1 + 5 * (wk t).2) 0) ((t + 1) * (t + 2) / 2 % 64))
def zW : List W64 := List.replicate 25 0
theorem len_zW : zW.length = 25 := rfl
def piF (a : List W64) (k : Nat) : List W64 := (List.range k).foldl (piS a) (zW.set 0 (a.getD 0 0))
def chB (b : List W64) (y : Nat) (a : List W64) (k : Nat) : List W64 := (List.range k).foldl (fun a x => a.set (x + 5 * y) (b.getD (x + 5 * y) 0 ^^^ (~~~ b.getD ((x + 1) % 5 + 5 * y) 0 &&& b.getD ((x + 2) % 5 + 5 * y) 0))) a
def chG (b a : List W64) (k : Nat) : List W64 := (List.range k).foldl (fun a y => chB b y a 5) a
def roundR (s : List W64) (r : Nat) : List W64 := iotaF (chG (piF (thF s 5) 24) (thF s 5) 5) r
def turnR (a : List W64) (k : Nat) : List W64 := (List.range k).foldl roundR a
theorem parX_succ (s : List W64) (c k : Nat) : parX s c (k + 1) = parX s c k ^^^ s.getD (c + 5 * k) 0 := by unfold parX; exact fold_succ _ _ _
theorem thB_succ (v : W64) (x : Nat) (a : List W64) (k : Nat) : thB v x a (k + 1) = (thB v x a k).set (x + 5 * k) ((thB v x a k).getD (x + 5 * k) 0 ^^^ v) := by unfold thB; exact fold_succ _ _ _
theorem thF_succ (s : List W64) (k : Nat) : thF s (k + 1) = thB (thV s k) k (thF s k) 5 := by unfold thF; exact fold_succ _ _ _
theorem piF_succ (a : List W64) (k : Nat) : piF a (k + 1) = piS a (piF a k) k := by unfold piF; exact fold_succ _ _ _
theorem chB_succ (b : List W64) (y : Nat) (a : List W64) (x : Nat) : chB b y a (x + 1) = (chB b y a x).set (x + 5 * y) (b.getD (x + 5 * y) 0 ^^^ (~~~ b.getD ((x + 1) % 5 + 5 * y) 0 &&& b.getD ((x + 2) % 5 + 5 * y) 0)) := by unfold chB; exact fold_succ _ _ _
theorem chG_succ (b a : List W64) (k : Nat) : chG b a (k + 1) = chB b k (chG b a k) 5 := by unfold chG; exact fold_succ _ _ _
theorem turnR_succ (a : List W64) (k : Nat) : turnR a (k + 1) = roundR (turnR a k) k := by unfold turnR; exact fold_succ _ _ _
theorem parX_0 (s : List W64) (c : Nat) : parX s c 0 = 0 := rfl
theorem thB_0 (v : W64) (x : Nat) (a : List W64) : thB v x a 0 = a := rfl
theorem thF_0 (s : List W64) : thF s 0 = s := rfl
theorem piF_0 (a : List W64) : piF a 0 = zW.set 0 (a.getD 0 0) := rfl
theorem chB_0 (b : List W64) (y : Nat) (a : List W64) : chB b y a 0 = a := rfl
theorem chG_0 (b a : List W64) : chG b a 0 = a := rfl
theorem len_thB (v : W64) (x : Nat) (a : List W64) (k : Nat) : (thB v x a k).length = a.length := len_foldl _ (fun _ _ => by simp) _ _
theorem len_thF (s : List W64) (k : Nat) : (thF s k).length = s.length := len_foldl _ (fun _ _ => by simp [len_thB]) _ _
theorem len_piF (a : List W64) (k : Nat) : (piF a k).length = 25 := by unfold piF; rw [len_foldl _ (fun _ _ => by simp [piS])]; simp [zW]
theorem len_chB (b : List W64) (y : Nat) (a : List W64) (k : Nat) : (chB b y a k).length = a.length := len_foldl _ (fun _ _ => by simp) _ _
theorem len_chG (b a : List W64) (k : Nat) : (chG b a k).length = a.length := len_foldl _ (fun _ _ => by simp [len_chB]) _ _
theorem len_roundR (a : List W64) (r : Nat) : (roundR a r).length = a.length := by simp [roundR, iotaF, len_chG, len_piF, len_thF]
theorem len_turnR (a : List W64) (k : Nat) : (turnR a k).length = a.length := len_foldl _ len_roundR _ _
theorem wk_lt : ∀ t, (wk t).1 < 5 ∧ (wk t).2 < 5
  | 0 => by decide
  | t + 1 => ⟨(wk_lt t).2, Nat.mod_lt _ (by omega)⟩
theorem z25 : [D.int IntKind.u64 0, D.int IntKind.u64 0, D.int IntKind.u64 0, D.int IntKind.u64 0, D.int IntKind.u64 0, D.int IntKind.u64 0, D.int IntKind.u64 0, D.int IntKind.u64 0, D.int IntKind.u64 0, D.int IntKind.u64 0, D.int IntKind.u64 0, D.int IntKind.u64 0, D.int IntKind.u64 0, D.int IntKind.u64 0, D.int IntKind.u64 0, D.int IntKind.u64 0, D.int IntKind.u64 0, D.int IntKind.u64 0, D.int IntKind.u64 0, D.int IntKind.u64 0, D.int IntKind.u64 0, D.int IntKind.u64 0, D.int IntKind.u64 0, D.int IntKind.u64 0, D.int IntKind.u64 0] = encW zW := rfl
def hp4 (p1 p2 p3 p4 : Nat) (s a b : List W64) : AHeap := (((AHeap.emp.set p1 (.cells (encW s))).set p2 (.cells (encW zW))).set p3 (.cells (encW a))).set p4 (.cells (encW b))
def wI (n : Nat) : D := .int .i64 (n : Int)
def wU (n : W64) : D := .int .u64 (ofW n)
set_option maxHeartbeats 4000000 in
theorem round_c (s : List W64) (r : Nat) (hs : s.length = 25) (hr : r < 24) : PCall Try.prog 26 [.agg (encW s), .int .i64 r] (.agg (encW (roundR s r))) := by
  refine PCall.run tb29_ok st26 (by simp) fun E => ?_
  have cW : ∀ l : List W64, (encW l).all cellOk = true := fun l => by simp [encW, cellOk]
  have ts : (encW s).take 25 = encW s := takeW hs
  simp (config := {maxSteps := 1000000}) only [s26, cW, ts, setAt_all, len_encW, hs, tb29_e, Int.natCast_nonneg, Nat.le_refl, Int.le_refl, List.take_succ_cons, List.take_zero, decide_true, decide_false, Bool.and_false, Bool.false_and, zz, zzN, zzF, fltEv, isArithF, ↓reduceIte, Nat.reduceEqDiff, Nat.reduceBEq, Int.reduceLT, Int.reduceLE, Int.reduceToNat, Int.reduceEq, Int.reduceAdd, Int.reduceSub, Int.reduceMul, Int.reduceNeg, Nat.reduceMul, Nat.reduceSub, Nat.reduceLeDiff, Nat.reduceLT, Int.reduceGT, Int.reduceBEq, Int.reduceBNe, reduceCtorEq, Nat.reduceAdd, Ins.map, Fr.ev, argFr, argE, binEv, intEv, shEv, strEv, unEv, Fr.mark, evRes, tup, lenD, lookupD, loadD, partD, storeD, cellsD, cellOk, setAt, objNe, objSame, eqEv, readEv, buildD, buildRows, rowsOf, elemsOf]
  intro p1 p2 a12 a21
  simp (config := {maxSteps := 1000000}) only [a12, a21, cW, ts, setAt_all, len_encW, hs, tb29_e, Int.natCast_nonneg, Nat.le_refl, Int.le_refl, List.take_succ_cons, List.take_zero, decide_true, decide_false, Bool.and_false, Bool.false_and, zz, zzN, zzF, fltEv, isArithF, ↓reduceIte, Nat.reduceEqDiff, Nat.reduceBEq, Int.reduceLT, Int.reduceLE, Int.reduceToNat, Int.reduceEq, Int.reduceAdd, Int.reduceSub, Int.reduceMul, Int.reduceNeg, Nat.reduceMul, Nat.reduceSub, Nat.reduceLeDiff, Nat.reduceLT, Int.reduceGT, Int.reduceBEq, Int.reduceBNe, reduceCtorEq, Nat.reduceAdd, Ins.map, Fr.ev, argFr, argE, binEv, intEv, shEv, strEv, unEv, Fr.mark, evRes, tup, lenD, lookupD, loadD, partD, storeD, cellsD, cellOk, setAt, objNe, objSame, eqEv, readEv, buildD, buildRows, rowsOf, elemsOf]
  intro p3 a31 a32 a33 a34 p4 a41 a42 a43 a44 a45 a46
  simp (config := {maxSteps := 1000000}) only [a12, a21, a31, a32, a33, a34, a41, a42, a43, a44, a45, a46, cW, ts, setAt_all, len_encW, hs, tb29_e, Int.natCast_nonneg, Nat.le_refl, Int.le_refl, List.take_succ_cons, List.take_zero, decide_true, decide_false, Bool.and_false, Bool.false_and, zz, zzN, zzF, fltEv, isArithF, ↓reduceIte, Nat.reduceEqDiff, Nat.reduceBEq, Int.reduceLT, Int.reduceLE, Int.reduceToNat, Int.reduceEq, Int.reduceAdd, Int.reduceSub, Int.reduceMul, Int.reduceNeg, Nat.reduceMul, Nat.reduceSub, Nat.reduceLeDiff, Nat.reduceLT, Int.reduceGT, Int.reduceBEq, Int.reduceBNe, reduceCtorEq, Nat.reduceAdd, Ins.map, Fr.ev, argFr, argE, binEv, intEv, shEv, strEv, unEv, Fr.mark, evRes, tup, lenD, lookupD, loadD, partD, storeD, cellsD, cellOk, setAt, objNe, objSame, eqEv, readEv, buildD, buildRows, rowsOf, elemsOf]
  refine run_loop (X := Nat) (fun x => [(1, .int .i64 r), (2, .ptr p1 1 0), (4, .ptr p2 1 0), (5, .ptr p3 1 0), (6, .ptr p4 1 0), (7, .int .i64 x)]) (fun x => hp4 p1 p2 p3 p4 s (thF s x) zW) (fun x => 5 - x) (fun x => x ≤ 5) 0 (by simp) ?_ ?_ ?_
  · simp only [Int.natCast_nonneg, Nat.le_refl, Int.le_refl, List.take_succ_cons, List.take_zero, decide_true, decide_false, Bool.and_false, Bool.false_and, zz, zzN, zzF, fltEv, isArithF, ↓reduceIte, Nat.reduceEqDiff, Nat.reduceBEq, Int.reduceLT, Int.reduceLE, Int.reduceToNat, Int.reduceEq, Int.reduceAdd, Int.reduceSub, Int.reduceMul, Int.reduceNeg, Nat.reduceMul, Nat.reduceSub, Nat.reduceLeDiff, Nat.reduceLT, Int.reduceGT, Int.reduceBEq, Int.reduceBNe, reduceCtorEq, Nat.reduceAdd, Ins.map, Fr.ev, argFr, argE, binEv, intEv, shEv, strEv, unEv, Fr.mark, evRes, tup, lenD, lookupD, loadD, partD, storeD, cellsD, cellOk, setAt, objNe, objSame, eqEv, readEv, buildD, buildRows, rowsOf, elemsOf]
  · rw [thF_0]
    unfold hp4
    simp only [← z25]
    exact AHeap.sub_X (by repeat' first | with_reducible exact AHeap.subX_refl | with_reducible exact AHeap.subX_emp | refine AHeap.subX_l (by simp [a12, a21, a31, a32, a33, a34, a41, a42, a43, a44, a45, a46]) ?_ | refine AHeap.subX_r (by simp [a12, a21, a31, a32, a33, a34, a41, a42, a43, a44, a45, a46]) ?_)
  intro x Q hx hQ
  have la : (thF s x).length = 25 := by rw [len_thF, hs]
  by_cases c1 : x < 5
  · have g1 : ((x : Int) < 5) = True := by simp; omega
    have wx : IntKind.i64.wrap ((x : Int) + 1) = ((x + 1 : Nat) : Int) := wrap_succ (by omega)
    have wx4 : IntKind.i64.wrap ((x : Int) + 4) = ((x + 4 : Nat) : Int) := by rw [wrap_i64 (by omega) (by omega)]; omega
    have m4 : Int.tmod ((x + 4 : Nat) : Int) 5 = (((x + 4) % 5 : Nat) : Int) := tmod_nat (x + 4) 5
    have m1 : Int.tmod ((x + 1 : Nat) : Int) 5 = (((x + 1) % 5 : Nat) : Int) := tmod_nat (x + 1) 5
    have f1 := thF_succ s x
    have f2 : thV s x = parX s ((x + 4) % 5) 5 ^^^ rotL (parX s ((x + 1) % 5) 5) 1 := rfl
    have f3 := thB_0 (thV s x) x (thF s x)
    generalize thF s x = A at *
    simp (config := {maxSteps := 1000000}) only [hp4, g1, Int.natCast_nonneg, Nat.le_refl, Int.le_refl, List.take_succ_cons, List.take_zero, decide_true, decide_false, Bool.and_false, Bool.false_and, zz, zzN, zzF, fltEv, isArithF, ↓reduceIte, Nat.reduceEqDiff, Nat.reduceBEq, Int.reduceLT, Int.reduceLE, Int.reduceToNat, Int.reduceEq, Int.reduceAdd, Int.reduceSub, Int.reduceMul, Int.reduceNeg, Nat.reduceMul, Nat.reduceSub, Nat.reduceLeDiff, Nat.reduceLT, Int.reduceGT, Int.reduceBEq, Int.reduceBNe, reduceCtorEq, Nat.reduceAdd, Ins.map, Fr.ev, argFr, argE, binEv, intEv, shEv, strEv, unEv, Fr.mark, evRes, tup, lenD, lookupD, loadD, partD, storeD, cellsD, cellOk, setAt, objNe, objSame, eqEv, readEv, buildD, buildRows, rowsOf, elemsOf]
    refine run_loop (X := Nat) (fun y => [(1, .int .i64 r), (2, .ptr p1 1 0), (4, .ptr p2 1 0), (5, .ptr p3 1 0), (6, .ptr p4 1 0), (7, .int .i64 x), (8, .int .u64 (ofW (parX s ((x + 4) % 5) y))), (9, .int .u64 (ofW (parX s ((x + 1) % 5) y))), (10, .int .i64 y)]) (fun y => hp4 p1 p2 p3 p4 s A zW) (fun y => 5 - y) (fun y => y ≤ 5) 0 (by simp) ?_ ?_ ?_
    · have o0 : ofW 0 = 0 := rfl
      simp only [parX_0, o0, Int.natCast_nonneg, Nat.le_refl, Int.le_refl, List.take_succ_cons, List.take_zero, decide_true, decide_false, Bool.and_false, Bool.false_and, zz, zzN, zzF, fltEv, isArithF, ↓reduceIte, Nat.reduceEqDiff, Nat.reduceBEq, Int.reduceLT, Int.reduceLE, Int.reduceToNat, Int.reduceEq, Int.reduceAdd, Int.reduceSub, Int.reduceMul, Int.reduceNeg, Nat.reduceMul, Nat.reduceSub, Nat.reduceLeDiff, Nat.reduceLT, Int.reduceGT, Int.reduceBEq, Int.reduceBNe, reduceCtorEq, Nat.reduceAdd, Ins.map, Fr.ev, argFr, argE, binEv, intEv, shEv, strEv, unEv, Fr.mark, evRes, tup, lenD, lookupD, loadD, partD, storeD, cellsD, cellOk, setAt, objNe, objSame, eqEv, readEv, buildD, buildRows, rowsOf, elemsOf]
    · exact AHeap.sub_refl _
    · intro y Q2 hy hQ2
      by_cases c2 : y < 5
      · have g2 : ((y : Int) < 5) = True := by simp; omega
        have wy : IntKind.i64.wrap ((y : Int) + 1) = ((y + 1 : Nat) : Int) := wrap_succ (by omega)
        have wy5 : IntKind.i64.wrap (5 * (y : Int)) = ((5 * y : Nat) : Int) := by rw [wrap_i64 (by omega) (by omega)]; omega
        have r4 := wadd ((x + 4) % 5) (5 * y) (by omega)
        have r1 := wadd ((x + 1) % 5) (5 * y) (by omega)
        have l4 : ((((x + 4) % 5 + 5 * y : Nat) : Int) < 25) = True := by simp; omega
        have l1 : ((((x + 1) % 5 + 5 * y : Nat) : Int) < 25) = True := by simp; omega
        have e4 := encW_get (l := s) (i := (x + 4) % 5 + 5 * y) (by omega)
        have e1 := encW_get (l := s) (i := (x + 1) % 5 + 5 * y) (by omega)
        have k4 := parX_succ s ((x + 4) % 5) y
        have k1 := parX_succ s ((x + 1) % 5) y
        generalize parX s ((x + 4) % 5) y = u4 at *
        generalize parX s ((x + 1) % 5) y = u1 at *
        simp (config := {maxSteps := 1000000}) only [hp4, g2, wx, wx4, m4, m1, wy, wy5, r4, r1, l4, l1, e4, e1, w_xor, Nat.mul_one, a12, a21, a31, a32, a33, a34, a41, a42, a43, a44, a45, a46, tb29_e, Int.natCast_nonneg, Nat.le_refl, Int.le_refl, List.take_succ_cons, List.take_zero, decide_true, decide_false, Bool.and_false, Bool.false_and, zz, zzN, zzF, fltEv, isArithF, ↓reduceIte, Nat.reduceEqDiff, Nat.reduceBEq, Int.reduceLT, Int.reduceLE, Int.reduceToNat, Int.reduceEq, Int.reduceAdd, Int.reduceSub, Int.reduceMul, Int.reduceNeg, Nat.reduceMul, Nat.reduceSub, Nat.reduceLeDiff, Nat.reduceLT, Int.reduceGT, Int.reduceBEq, Int.reduceBNe, reduceCtorEq, Nat.reduceAdd, Ins.map, Fr.ev, argFr, argE, binEv, intEv, shEv, strEv, unEv, Fr.mark, evRes, tup, lenD, lookupD, loadD, partD, storeD, cellsD, cellOk, setAt, objNe, objSame, eqEv, readEv, buildD, buildRows, rowsOf, elemsOf]
        exact hQ2 (y + 1) _ _ (by omega) (by simp only [k4, k1, Int.natCast_nonneg, Nat.le_refl, Int.le_refl, List.take_succ_cons, List.take_zero, decide_true, decide_false, Bool.and_false, Bool.false_and, zz, zzN, zzF, fltEv, isArithF, ↓reduceIte, Nat.reduceEqDiff, Nat.reduceBEq, Int.reduceLT, Int.reduceLE, Int.reduceToNat, Int.reduceEq, Int.reduceAdd, Int.reduceSub, Int.reduceMul, Int.reduceNeg, Nat.reduceMul, Nat.reduceSub, Nat.reduceLeDiff, Nat.reduceLT, Int.reduceGT, Int.reduceBEq, Int.reduceBNe, reduceCtorEq, Nat.reduceAdd, Ins.map, Fr.ev, argFr, argE, binEv, intEv, shEv, strEv, unEv, Fr.mark, evRes, tup, lenD, lookupD, loadD, partD, storeD, cellsD, cellOk, setAt, objNe, objSame, eqEv, readEv, buildD, buildRows, rowsOf, elemsOf]) (AHeap.sub_refl _) (by omega)
      · have hc : y = 5 := by omega
        subst hc
        have g2 : (((5 : Nat) : Int) < 5) = False := by simp
        generalize hu4 : parX s ((x + 4) % 5) 5 = u4 at *
        generalize hu1 : parX s ((x + 1) % 5) 5 = u1 at *
        simp (config := {maxSteps := 1000000}) only [hp4, g2, a12, a21, a31, a32, a33, a34, a41, a42, a43, a44, a45, a46, tb29_e, Int.natCast_nonneg, Nat.le_refl, Int.le_refl, List.take_succ_cons, List.take_zero, decide_true, decide_false, Bool.and_false, Bool.false_and, zz, zzN, zzF, fltEv, isArithF, ↓reduceIte, Nat.reduceEqDiff, Nat.reduceBEq, Int.reduceLT, Int.reduceLE, Int.reduceToNat, Int.reduceEq, Int.reduceAdd, Int.reduceSub, Int.reduceMul, Int.reduceNeg, Nat.reduceMul, Nat.reduceSub, Nat.reduceLeDiff, Nat.reduceLT, Int.reduceGT, Int.reduceBEq, Int.reduceBNe, reduceCtorEq, Nat.reduceAdd, Ins.map, Fr.ev, argFr, argE, binEv, intEv, shEv, strEv, unEv, Fr.mark, evRes, tup, lenD, lookupD, loadD, partD, storeD, cellsD, cellOk, setAt, objNe, objSame, eqEv, readEv, buildD, buildRows, rowsOf, elemsOf]
        clear hQ2 g2 hy
        refine run_loop (X := Nat) (fun y => [(1, .int .i64 r), (2, .ptr p1 1 0), (4, .ptr p2 1 0), (5, .ptr p3 1 0), (6, .ptr p4 1 0), (7, .int .i64 x), (8, .int .u64 (ofW u4)), (9, .int .u64 (ofW u1)), (11, .int .i64 y)]) (fun y => hp4 p1 p2 p3 p4 s (thB (thV s x) x A y) zW) (fun y => 5 - y) (fun y => y ≤ 5) 0 (by simp) ?_ ?_ ?_
        · simp only [Int.natCast_nonneg, Nat.le_refl, Int.le_refl, List.take_succ_cons, List.take_zero, decide_true, decide_false, Bool.and_false, Bool.false_and, zz, zzN, zzF, fltEv, isArithF, ↓reduceIte, Nat.reduceEqDiff, Nat.reduceBEq, Int.reduceLT, Int.reduceLE, Int.reduceToNat, Int.reduceEq, Int.reduceAdd, Int.reduceSub, Int.reduceMul, Int.reduceNeg, Nat.reduceMul, Nat.reduceSub, Nat.reduceLeDiff, Nat.reduceLT, Int.reduceGT, Int.reduceBEq, Int.reduceBNe, reduceCtorEq, Nat.reduceAdd, Ins.map, Fr.ev, argFr, argE, binEv, intEv, shEv, strEv, unEv, Fr.mark, evRes, tup, lenD, lookupD, loadD, partD, storeD, cellsD, cellOk, setAt, objNe, objSame, eqEv, readEv, buildD, buildRows, rowsOf, elemsOf]
        · rw [f3]; exact AHeap.sub_refl _
        · intro y Q3 hy hQ3
          have lb : (thB (thV s x) x A y).length = 25 := by rw [len_thB, la]
          by_cases c3 : y < 5
          · have g3 : ((y : Int) < 5) = True := by simp; omega
            have wy : IntKind.i64.wrap ((y : Int) + 1) = ((y + 1 : Nat) : Int) := wrap_succ (by omega)
            have wy5 : IntKind.i64.wrap (5 * (y : Int)) = ((5 * y : Nat) : Int) := by rw [wrap_i64 (by omega) (by omega)]; omega
            have wxy := wadd x (5 * y) (by omega)
            have lxy : (((x + 5 * y : Nat) : Int) < 25) = True := by simp; omega
            have k3 := thB_succ (thV s x) x A y
            generalize thB (thV s x) x A y = B at *
            have eB := encW_get (l := B) (i := x + 5 * y) (by omega)
            have q1 : q29 [.int .u64 (ofW u1), .int .i64 1] = some (.int .u64 (ofW (rotL u1 1))) := q29_eq (n := 1) (by omega)
            simp (config := {maxSteps := 1000000}) only [hp4, g3, wy, wy5, wxy, lxy, eB, q1, w_xor, encW_set, len_encW, lb, Nat.mul_one, a12, a21, a31, a32, a33, a34, a41, a42, a43, a44, a45, a46, tb29_e, Int.natCast_nonneg, Nat.le_refl, Int.le_refl, List.take_succ_cons, List.take_zero, decide_true, decide_false, Bool.and_false, Bool.false_and, zz, zzN, zzF, fltEv, isArithF, ↓reduceIte, Nat.reduceEqDiff, Nat.reduceBEq, Int.reduceLT, Int.reduceLE, Int.reduceToNat, Int.reduceEq, Int.reduceAdd, Int.reduceSub, Int.reduceMul, Int.reduceNeg, Nat.reduceMul, Nat.reduceSub, Nat.reduceLeDiff, Nat.reduceLT, Int.reduceGT, Int.reduceBEq, Int.reduceBNe, reduceCtorEq, Nat.reduceAdd, Ins.map, Fr.ev, argFr, argE, binEv, intEv, shEv, strEv, unEv, Fr.mark, evRes, tup, lenD, lookupD, loadD, partD, storeD, cellsD, cellOk, setAt, objNe, objSame, eqEv, readEv, buildD, buildRows, rowsOf, elemsOf]
            refine ⟨by omega, hQ3 (y + 1) _ _ (by omega) (by simp only [Int.natCast_nonneg, Nat.le_refl, Int.le_refl, List.take_succ_cons, List.take_zero, decide_true, decide_false, Bool.and_false, Bool.false_and, zz, zzN, zzF, fltEv, isArithF, ↓reduceIte, Nat.reduceEqDiff, Nat.reduceBEq, Int.reduceLT, Int.reduceLE, Int.reduceToNat, Int.reduceEq, Int.reduceAdd, Int.reduceSub, Int.reduceMul, Int.reduceNeg, Nat.reduceMul, Nat.reduceSub, Nat.reduceLeDiff, Nat.reduceLT, Int.reduceGT, Int.reduceBEq, Int.reduceBNe, reduceCtorEq, Nat.reduceAdd, Ins.map, Fr.ev, argFr, argE, binEv, intEv, shEv, strEv, unEv, Fr.mark, evRes, tup, lenD, lookupD, loadD, partD, storeD, cellsD, cellOk, setAt, objNe, objSame, eqEv, readEv, buildD, buildRows, rowsOf, elemsOf]) ?_ (by omega)⟩
            rw [k3, f2]
            simp only [hp4]
            exact AHeap.sub_X (by repeat' first | with_reducible exact AHeap.subX_refl | with_reducible exact AHeap.subX_emp | refine AHeap.subX_l (by simp [a12, a21, a31, a32, a33, a34, a41, a42, a43, a44, a45, a46]) ?_ | refine AHeap.subX_r (by simp [a12, a21, a31, a32, a33, a34, a41, a42, a43, a44, a45, a46]) ?_)
          · have hc : y = 5 := by omega
            subst hc
            have g3 : (((5 : Nat) : Int) < 5) = False := by simp
            rw [← f1]
            simp (config := {maxSteps := 1000000}) only [hp4, g3, wx, a12, a21, a31, a32, a33, a34, a41, a42, a43, a44, a45, a46, tb29_e, Int.natCast_nonneg, Nat.le_refl, Int.le_refl, List.take_succ_cons, List.take_zero, decide_true, decide_false, Bool.and_false, Bool.false_and, zz, zzN, zzF, fltEv, isArithF, ↓reduceIte, Nat.reduceEqDiff, Nat.reduceBEq, Int.reduceLT, Int.reduceLE, Int.reduceToNat, Int.reduceEq, Int.reduceAdd, Int.reduceSub, Int.reduceMul, Int.reduceNeg, Nat.reduceMul, Nat.reduceSub, Nat.reduceLeDiff, Nat.reduceLT, Int.reduceGT, Int.reduceBEq, Int.reduceBNe, reduceCtorEq, Nat.reduceAdd, Ins.map, Fr.ev, argFr, argE, binEv, intEv, shEv, strEv, unEv, Fr.mark, evRes, tup, lenD, lookupD, loadD, partD, storeD, cellsD, cellOk, setAt, objNe, objSame, eqEv, readEv, buildD, buildRows, rowsOf, elemsOf]
            exact hQ (x + 1) _ _ (by omega) (by simp only [Int.natCast_nonneg, Nat.le_refl, Int.le_refl, List.take_succ_cons, List.take_zero, decide_true, decide_false, Bool.and_false, Bool.false_and, zz, zzN, zzF, fltEv, isArithF, ↓reduceIte, Nat.reduceEqDiff, Nat.reduceBEq, Int.reduceLT, Int.reduceLE, Int.reduceToNat, Int.reduceEq, Int.reduceAdd, Int.reduceSub, Int.reduceMul, Int.reduceNeg, Nat.reduceMul, Nat.reduceSub, Nat.reduceLeDiff, Nat.reduceLT, Int.reduceGT, Int.reduceBEq, Int.reduceBNe, reduceCtorEq, Nat.reduceAdd, Ins.map, Fr.ev, argFr, argE, binEv, intEv, shEv, strEv, unEv, Fr.mark, evRes, tup, lenD, lookupD, loadD, partD, storeD, cellsD, cellOk, setAt, objNe, objSame, eqEv, readEv, buildD, buildRows, rowsOf, elemsOf]) (AHeap.sub_refl _) (by omega)
  · have hc : x = 5 := by omega
    subst hc
    have g1 : (((5 : Nat) : Int) < 5) = False := by simp
    have fR : roundR s r = iotaF (chG (piF (thF s 5) 24) (thF s 5) 5) r := rfl
    generalize thF s 5 = A at *
    have eA := encW_get (l := A) (i := 0) (by omega)
    have f4 := piF_0 A
    simp (config := {maxSteps := 1000000}) only [hp4, g1, eA, encW_set, len_encW, len_zW, a12, a21, a31, a32, a33, a34, a41, a42, a43, a44, a45, a46, tb29_e, Int.natCast_nonneg, Nat.le_refl, Int.le_refl, List.take_succ_cons, List.take_zero, decide_true, decide_false, Bool.and_false, Bool.false_and, zz, zzN, zzF, fltEv, isArithF, ↓reduceIte, Nat.reduceEqDiff, Nat.reduceBEq, Int.reduceLT, Int.reduceLE, Int.reduceToNat, Int.reduceEq, Int.reduceAdd, Int.reduceSub, Int.reduceMul, Int.reduceNeg, Nat.reduceMul, Nat.reduceSub, Nat.reduceLeDiff, Nat.reduceLT, Int.reduceGT, Int.reduceBEq, Int.reduceBNe, reduceCtorEq, Nat.reduceAdd, Ins.map, Fr.ev, argFr, argE, binEv, intEv, shEv, strEv, unEv, Fr.mark, evRes, tup, lenD, lookupD, loadD, partD, storeD, cellsD, cellOk, setAt, objNe, objSame, eqEv, readEv, buildD, buildRows, rowsOf, elemsOf]
    rw [← f4]
    clear hQ hx
    refine run_loop (X := Nat) (fun t => [(1, .int .i64 r), (2, .ptr p1 1 0), (4, .ptr p2 1 0), (5, .ptr p3 1 0), (6, .ptr p4 1 0), (12, .int .i64 (wk t).1), (13, .int .i64 (wk t).2), (14, .int .i64 t)]) (fun t => hp4 p1 p2 p3 p4 s A (piF A t)) (fun t => 24 - t) (fun t => t ≤ 24) 0 (by simp) ?_ ?_ ?_
    · have o1 : (((wk 0).1 : Nat) : Int) = 1 := rfl
      have o2 : (((wk 0).2 : Nat) : Int) = 0 := rfl
      simp only [o1, o2, Int.natCast_nonneg, Nat.le_refl, Int.le_refl, List.take_succ_cons, List.take_zero, decide_true, decide_false, Bool.and_false, Bool.false_and, zz, zzN, zzF, fltEv, isArithF, ↓reduceIte, Nat.reduceEqDiff, Nat.reduceBEq, Int.reduceLT, Int.reduceLE, Int.reduceToNat, Int.reduceEq, Int.reduceAdd, Int.reduceSub, Int.reduceMul, Int.reduceNeg, Nat.reduceMul, Nat.reduceSub, Nat.reduceLeDiff, Nat.reduceLT, Int.reduceGT, Int.reduceBEq, Int.reduceBNe, reduceCtorEq, Nat.reduceAdd, Ins.map, Fr.ev, argFr, argE, binEv, intEv, shEv, strEv, unEv, Fr.mark, evRes, tup, lenD, lookupD, loadD, partD, storeD, cellsD, cellOk, setAt, objNe, objSame, eqEv, readEv, buildD, buildRows, rowsOf, elemsOf]
    · simp only [hp4]
      exact AHeap.sub_X (by repeat' first | with_reducible exact AHeap.subX_refl | with_reducible exact AHeap.subX_emp | refine AHeap.subX_l (by simp [a12, a21, a31, a32, a33, a34, a41, a42, a43, a44, a45, a46]) ?_ | refine AHeap.subX_r (by simp [a12, a21, a31, a32, a33, a34, a41, a42, a43, a44, a45, a46]) ?_)
    intro t Q ht hQ
    have lb : (piF A t).length = 25 := len_piF A t
    by_cases c1 : t < 24
    · have g1 : ((t : Int) < 24) = True := by simp; omega
      have h := wk_lt t
      have f5 := piF_succ A t
      have f6 : wk (t + 1) = wkS (wk t) := rfl
      unfold piS at f5
      unfold wkS at f6
      generalize piF A t = B at *
      generalize wk t = w at *
      obtain ⟨x, y⟩ := w
      simp only at h f5 f6
      have w1 : IntKind.i64.wrap (2 * (x : Int)) = ((2 * x : Nat) : Int) := by rw [wrap_i64 (by omega) (by omega)]; omega
      have w2 : IntKind.i64.wrap (3 * (y : Int)) = ((3 * y : Nat) : Int) := by rw [wrap_i64 (by omega) (by omega)]; omega
      have w3 := wadd (2 * x) (3 * y) (by omega)
      have m1 : Int.tmod ((2 * x + 3 * y : Nat) : Int) 5 = (((2 * x + 3 * y) % 5 : Nat) : Int) := tmod_nat _ 5
      have f7 : (wk (t + 1)).1 = y := by rw [f6]
      have f8 : (wk (t + 1)).2 = (2 * x + 3 * y) % 5 := by rw [f6]
      have hm : (2 * x + 3 * y) % 5 < 5 := Nat.mod_lt _ (by omega)
      generalize (2 * x + 3 * y) % 5 = m at *
      have w4 : IntKind.i64.wrap (5 * (m : Int)) = ((5 * m : Nat) : Int) := by rw [wrap_i64 (by omega) (by omega)]; omega
      have w5 := wadd y (5 * m) (by omega)
      have w6 : IntKind.i64.wrap (5 * (y : Int)) = ((5 * y : Nat) : Int) := by rw [wrap_i64 (by omega) (by omega)]; omega
      have w7 := wadd x (5 * y) (by omega)
      have l1 : (((y + 5 * m : Nat) : Int) < 25) = True := by simp; omega
      have l2 : (((x + 5 * y : Nat) : Int) < 25) = True := by simp; omega
      have w8 : IntKind.i64.wrap ((t : Int) + 1) = ((t + 1 : Nat) : Int) := wrap_succ (by omega)
      have w9 : IntKind.i64.wrap ((t : Int) + 2) = ((t + 2 : Nat) : Int) := by rw [wrap_i64 (by omega) (by omega)]; omega
      have hb : (t + 1) * (t + 2) ≤ 25 * 26 := Nat.mul_le_mul (by omega) (by omega)
      have w10 := wmul (t + 1) (t + 2) (by omega)
      generalize (t + 1) * (t + 2) = z at *
      have m2 : Int.tdiv (z : Int) 2 = ((z / 2 : Nat) : Int) := tdiv_nat z 2
      have m3 : Int.tmod ((z / 2 : Nat) : Int) 64 = ((z / 2 % 64 : Nat) : Int) := tmod_nat (z / 2) 64
      have hr : z / 2 % 64 < 64 := Nat.mod_lt _ (by omega)
      have w11 : IntKind.i64.wrap ((z / 2 : Nat) : Int) = ((z / 2 : Nat) : Int) := wr _ (by omega)
      generalize z / 2 % 64 = v at *
      have eA := encW_get (l := A) (i := x + 5 * y) (by omega)
      generalize A.getD (x + 5 * y) 0 = u at *
      have q1 : q29 [.int .u64 (ofW u), .int .i64 v] = some (.int .u64 (ofW (rotL u v))) := q29_eq hr
      simp (config := {maxSteps := 1000000}) only [hp4, g1, w1, w2, w3, m1, w4, w5, w6, w7, l1, l2, w8, w9, w10, m2, w11, m3, eA, q1, encW_set, len_encW, la, lb, Nat.mul_one, a12, a21, a31, a32, a33, a34, a41, a42, a43, a44, a45, a46, tb29_e, Int.natCast_nonneg, Nat.le_refl, Int.le_refl, List.take_succ_cons, List.take_zero, decide_true, decide_false, Bool.and_false, Bool.false_and, zz, zzN, zzF, fltEv, isArithF, ↓reduceIte, Nat.reduceEqDiff, Nat.reduceBEq, Int.reduceLT, Int.reduceLE, Int.reduceToNat, Int.reduceEq, Int.reduceAdd, Int.reduceSub, Int.reduceMul, Int.reduceNeg, Nat.reduceMul, Nat.reduceSub, Nat.reduceLeDiff, Nat.reduceLT, Int.reduceGT, Int.reduceBEq, Int.reduceBNe, reduceCtorEq, Nat.reduceAdd, Ins.map, Fr.ev, argFr, argE, binEv, intEv, shEv, strEv, unEv, Fr.mark, evRes, tup, lenD, lookupD, loadD, partD, storeD, cellsD, cellOk, setAt, objNe, objSame, eqEv, readEv, buildD, buildRows, rowsOf, elemsOf]
      refine ⟨by omega, hQ (t + 1) _ _ (by omega) (by simp only [f7, f8, Int.natCast_nonneg, Nat.le_refl, Int.le_refl, List.take_succ_cons, List.take_zero, decide_true, decide_false, Bool.and_false, Bool.false_and, zz, zzN, zzF, fltEv, isArithF, ↓reduceIte, Nat.reduceEqDiff, Nat.reduceBEq, Int.reduceLT, Int.reduceLE, Int.reduceToNat, Int.reduceEq, Int.reduceAdd, Int.reduceSub, Int.reduceMul, Int.reduceNeg, Nat.reduceMul, Nat.reduceSub, Nat.reduceLeDiff, Nat.reduceLT, Int.reduceGT, Int.reduceBEq, Int.reduceBNe, reduceCtorEq, Nat.reduceAdd, Ins.map, Fr.ev, argFr, argE, binEv, intEv, shEv, strEv, unEv, Fr.mark, evRes, tup, lenD, lookupD, loadD, partD, storeD, cellsD, cellOk, setAt, objNe, objSame, eqEv, readEv, buildD, buildRows, rowsOf, elemsOf]) ?_ (by omega)⟩
      rw [f5]
      simp only [hp4]
      exact AHeap.sub_X (by repeat' first | with_reducible exact AHeap.subX_refl | with_reducible exact AHeap.subX_emp | refine AHeap.subX_l (by simp [a12, a21, a31, a32, a33, a34, a41, a42, a43, a44, a45, a46]) ?_ | refine AHeap.subX_r (by simp [a12, a21, a31, a32, a33, a34, a41, a42, a43, a44, a45, a46]) ?_)
    · have hc : t = 24 := by omega
      subst hc
      have g1 : (((24 : Nat) : Int) < 24) = False := by simp
      generalize piF A 24 = B at *
      have f9 := chG_0 B A
      simp (config := {maxSteps := 1000000}) only [hp4, g1, a12, a21, a31, a32, a33, a34, a41, a42, a43, a44, a45, a46, tb29_e, Int.natCast_nonneg, Nat.le_refl, Int.le_refl, List.take_succ_cons, List.take_zero, decide_true, decide_false, Bool.and_false, Bool.false_and, zz, zzN, zzF, fltEv, isArithF, ↓reduceIte, Nat.reduceEqDiff, Nat.reduceBEq, Int.reduceLT, Int.reduceLE, Int.reduceToNat, Int.reduceEq, Int.reduceAdd, Int.reduceSub, Int.reduceMul, Int.reduceNeg, Nat.reduceMul, Nat.reduceSub, Nat.reduceLeDiff, Nat.reduceLT, Int.reduceGT, Int.reduceBEq, Int.reduceBNe, reduceCtorEq, Nat.reduceAdd, Ins.map, Fr.ev, argFr, argE, binEv, intEv, shEv, strEv, unEv, Fr.mark, evRes, tup, lenD, lookupD, loadD, partD, storeD, cellsD, cellOk, setAt, objNe, objSame, eqEv, readEv, buildD, buildRows, rowsOf, elemsOf]
      clear hQ ht
      refine run_loop (X := Nat) (fun y => [(1, .int .i64 r), (2, .ptr p1 1 0), (4, .ptr p2 1 0), (5, .ptr p3 1 0), (6, .ptr p4 1 0), (15, .int .i64 y)]) (fun y => hp4 p1 p2 p3 p4 s (chG B A y) B) (fun y => 5 - y) (fun y => y ≤ 5) 0 (by simp) ?_ ?_ ?_
      · simp only [Int.natCast_nonneg, Nat.le_refl, Int.le_refl, List.take_succ_cons, List.take_zero, decide_true, decide_false, Bool.and_false, Bool.false_and, zz, zzN, zzF, fltEv, isArithF, ↓reduceIte, Nat.reduceEqDiff, Nat.reduceBEq, Int.reduceLT, Int.reduceLE, Int.reduceToNat, Int.reduceEq, Int.reduceAdd, Int.reduceSub, Int.reduceMul, Int.reduceNeg, Nat.reduceMul, Nat.reduceSub, Nat.reduceLeDiff, Nat.reduceLT, Int.reduceGT, Int.reduceBEq, Int.reduceBNe, reduceCtorEq, Nat.reduceAdd, Ins.map, Fr.ev, argFr, argE, binEv, intEv, shEv, strEv, unEv, Fr.mark, evRes, tup, lenD, lookupD, loadD, partD, storeD, cellsD, cellOk, setAt, objNe, objSame, eqEv, readEv, buildD, buildRows, rowsOf, elemsOf]
      · rw [f9]; exact AHeap.sub_refl _
      intro y Q hy hQ
      have lg : (chG B A y).length = 25 := by rw [len_chG, la]
      by_cases c2 : y < 5
      · have g2 : ((y : Int) < 5) = True := by simp; omega
        have wy : IntKind.i64.wrap ((y : Int) + 1) = ((y + 1 : Nat) : Int) := wrap_succ (by omega)
        have wy5 : IntKind.i64.wrap (5 * (y : Int)) = ((5 * y : Nat) : Int) := by rw [wrap_i64 (by omega) (by omega)]; omega
        have f10 := chG_succ B A y
        generalize chG B A y = C at *
        have f11 := chB_0 B y C
        simp (config := {maxSteps := 1000000}) only [hp4, g2, a12, a21, a31, a32, a33, a34, a41, a42, a43, a44, a45, a46, tb29_e, Int.natCast_nonneg, Nat.le_refl, Int.le_refl, List.take_succ_cons, List.take_zero, decide_true, decide_false, Bool.and_false, Bool.false_and, zz, zzN, zzF, fltEv, isArithF, ↓reduceIte, Nat.reduceEqDiff, Nat.reduceBEq, Int.reduceLT, Int.reduceLE, Int.reduceToNat, Int.reduceEq, Int.reduceAdd, Int.reduceSub, Int.reduceMul, Int.reduceNeg, Nat.reduceMul, Nat.reduceSub, Nat.reduceLeDiff, Nat.reduceLT, Int.reduceGT, Int.reduceBEq, Int.reduceBNe, reduceCtorEq, Nat.reduceAdd, Ins.map, Fr.ev, argFr, argE, binEv, intEv, shEv, strEv, unEv, Fr.mark, evRes, tup, lenD, lookupD, loadD, partD, storeD, cellsD, cellOk, setAt, objNe, objSame, eqEv, readEv, buildD, buildRows, rowsOf, elemsOf]
        refine run_loop (X := Nat) (fun x => [(1, .int .i64 r), (2, .ptr p1 1 0), (4, .ptr p2 1 0), (5, .ptr p3 1 0), (6, .ptr p4 1 0), (15, .int .i64 y), (16, .int .i64 x)]) (fun x => hp4 p1 p2 p3 p4 s (chB B y C x) B) (fun x => 5 - x) (fun x => x ≤ 5) 0 (by simp) ?_ ?_ ?_
        · simp only [Int.natCast_nonneg, Nat.le_refl, Int.le_refl, List.take_succ_cons, List.take_zero, decide_true, decide_false, Bool.and_false, Bool.false_and, zz, zzN, zzF, fltEv, isArithF, ↓reduceIte, Nat.reduceEqDiff, Nat.reduceBEq, Int.reduceLT, Int.reduceLE, Int.reduceToNat, Int.reduceEq, Int.reduceAdd, Int.reduceSub, Int.reduceMul, Int.reduceNeg, Nat.reduceMul, Nat.reduceSub, Nat.reduceLeDiff, Nat.reduceLT, Int.reduceGT, Int.reduceBEq, Int.reduceBNe, reduceCtorEq, Nat.reduceAdd, Ins.map, Fr.ev, argFr, argE, binEv, intEv, shEv, strEv, unEv, Fr.mark, evRes, tup, lenD, lookupD, loadD, partD, storeD, cellsD, cellOk, setAt, objNe, objSame, eqEv, readEv, buildD, buildRows, rowsOf, elemsOf]
        · rw [f11]; exact AHeap.sub_refl _
        intro x Q4 hx hQ4
        have ld : (chB B y C x).length = 25 := by rw [len_chB, lg]
        by_cases c3 : x < 5
        · have g3 : ((x : Int) < 5) = True := by simp; omega
          have wx : IntKind.i64.wrap ((x : Int) + 1) = ((x + 1 : Nat) : Int) := wrap_succ (by omega)
          have wx2 : IntKind.i64.wrap ((x : Int) + 2) = ((x + 2 : Nat) : Int) := by rw [wrap_i64 (by omega) (by omega)]; omega
          have m1 : Int.tmod ((x + 1 : Nat) : Int) 5 = (((x + 1) % 5 : Nat) : Int) := tmod_nat (x + 1) 5
          have m2 : Int.tmod ((x + 2 : Nat) : Int) 5 = (((x + 2) % 5 : Nat) : Int) := tmod_nat (x + 2) 5
          have f12 := chB_succ B y C x
          have h1 : (x + 1) % 5 < 5 := Nat.mod_lt _ (by omega)
          have h2 : (x + 2) % 5 < 5 := Nat.mod_lt _ (by omega)
          generalize (x + 1) % 5 = x1 at *
          generalize (x + 2) % 5 = x2 at *
          have w1 := wadd x (5 * y) (by omega)
          have w2 := wadd x1 (5 * y) (by omega)
          have w3 := wadd x2 (5 * y) (by omega)
          have l1 : (((x + 5 * y : Nat) : Int) < 25) = True := by simp; omega
          have l2 : (((x1 + 5 * y : Nat) : Int) < 25) = True := by simp; omega
          have l3 : (((x2 + 5 * y : Nat) : Int) < 25) = True := by simp; omega
          have e1 := encW_get (l := B) (i := x + 5 * y) (by omega)
          have e2 := encW_get (l := B) (i := x1 + 5 * y) (by omega)
          have e3 := encW_get (l := B) (i := x2 + 5 * y) (by omega)
          generalize chB B y C x = G at *
          generalize B.getD (x + 5 * y) 0 = u at *
          generalize B.getD (x1 + 5 * y) 0 = u1 at *
          generalize B.getD (x2 + 5 * y) 0 = u2 at *
          simp (config := {maxSteps := 1000000}) only [hp4, g3, wx, wx2, wy5, m1, m2, w1, w2, w3, l1, l2, l3, e1, e2, e3, w_com, w_and, w_xor, encW_set, len_encW, ld, lb, Nat.mul_one, a12, a21, a31, a32, a33, a34, a41, a42, a43, a44, a45, a46, tb29_e, Int.natCast_nonneg, Nat.le_refl, Int.le_refl, List.take_succ_cons, List.take_zero, decide_true, decide_false, Bool.and_false, Bool.false_and, zz, zzN, zzF, fltEv, isArithF, ↓reduceIte, Nat.reduceEqDiff, Nat.reduceBEq, Int.reduceLT, Int.reduceLE, Int.reduceToNat, Int.reduceEq, Int.reduceAdd, Int.reduceSub, Int.reduceMul, Int.reduceNeg, Nat.reduceMul, Nat.reduceSub, Nat.reduceLeDiff, Nat.reduceLT, Int.reduceGT, Int.reduceBEq, Int.reduceBNe, reduceCtorEq, Nat.reduceAdd, Ins.map, Fr.ev, argFr, argE, binEv, intEv, shEv, strEv, unEv, Fr.mark, evRes, tup, lenD, lookupD, loadD, partD, storeD, cellsD, cellOk, setAt, objNe, objSame, eqEv, readEv, buildD, buildRows, rowsOf, elemsOf]
          refine ⟨by omega, hQ4 (x + 1) _ _ (by omega) (by simp only [Int.natCast_nonneg, Nat.le_refl, Int.le_refl, List.take_succ_cons, List.take_zero, decide_true, decide_false, Bool.and_false, Bool.false_and, zz, zzN, zzF, fltEv, isArithF, ↓reduceIte, Nat.reduceEqDiff, Nat.reduceBEq, Int.reduceLT, Int.reduceLE, Int.reduceToNat, Int.reduceEq, Int.reduceAdd, Int.reduceSub, Int.reduceMul, Int.reduceNeg, Nat.reduceMul, Nat.reduceSub, Nat.reduceLeDiff, Nat.reduceLT, Int.reduceGT, Int.reduceBEq, Int.reduceBNe, reduceCtorEq, Nat.reduceAdd, Ins.map, Fr.ev, argFr, argE, binEv, intEv, shEv, strEv, unEv, Fr.mark, evRes, tup, lenD, lookupD, loadD, partD, storeD, cellsD, cellOk, setAt, objNe, objSame, eqEv, readEv, buildD, buildRows, rowsOf, elemsOf]) ?_ (by omega)⟩
          rw [f12]
          simp only [hp4]
          exact AHeap.sub_X (by repeat' first | with_reducible exact AHeap.subX_refl | with_reducible exact AHeap.subX_emp | refine AHeap.subX_l (by simp [a12, a21, a31, a32, a33, a34, a41, a42, a43, a44, a45, a46]) ?_ | refine AHeap.subX_r (by simp [a12, a21, a31, a32, a33, a34, a41, a42, a43, a44, a45, a46]) ?_)
        · have hc : x = 5 := by omega
          subst hc
          have g3 : (((5 : Nat) : Int) < 5) = False := by simp
          rw [← f10]
          simp (config := {maxSteps := 1000000}) only [hp4, g3, wy, a12, a21, a31, a32, a33, a34, a41, a42, a43, a44, a45, a46, tb29_e, Int.natCast_nonneg, Nat.le_refl, Int.le_refl, List.take_succ_cons, List.take_zero, decide_true, decide_false, Bool.and_false, Bool.false_and, zz, zzN, zzF, fltEv, isArithF, ↓reduceIte, Nat.reduceEqDiff, Nat.reduceBEq, Int.reduceLT, Int.reduceLE, Int.reduceToNat, Int.reduceEq, Int.reduceAdd, Int.reduceSub, Int.reduceMul, Int.reduceNeg, Nat.reduceMul, Nat.reduceSub, Nat.reduceLeDiff, Nat.reduceLT, Int.reduceGT, Int.reduceBEq, Int.reduceBNe, reduceCtorEq, Nat.reduceAdd, Ins.map, Fr.ev, argFr, argE, binEv, intEv, shEv, strEv, unEv, Fr.mark, evRes, tup, lenD, lookupD, loadD, partD, storeD, cellsD, cellOk, setAt, objNe, objSame, eqEv, readEv, buildD, buildRows, rowsOf, elemsOf]
          exact hQ (y + 1) _ _ (by omega) (by simp only [Int.natCast_nonneg, Nat.le_refl, Int.le_refl, List.take_succ_cons, List.take_zero, decide_true, decide_false, Bool.and_false, Bool.false_and, zz, zzN, zzF, fltEv, isArithF, ↓reduceIte, Nat.reduceEqDiff, Nat.reduceBEq, Int.reduceLT, Int.reduceLE, Int.reduceToNat, Int.reduceEq, Int.reduceAdd, Int.reduceSub, Int.reduceMul, Int.reduceNeg, Nat.reduceMul, Nat.reduceSub, Nat.reduceLeDiff, Nat.reduceLT, Int.reduceGT, Int.reduceBEq, Int.reduceBNe, reduceCtorEq, Nat.reduceAdd, Ins.map, Fr.ev, argFr, argE, binEv, intEv, shEv, strEv, unEv, Fr.mark, evRes, tup, lenD, lookupD, loadD, partD, storeD, cellsD, cellOk, setAt, objNe, objSame, eqEv, readEv, buildD, buildRows, rowsOf, elemsOf]) (AHeap.sub_refl _) (by omega)
      · have hc : y = 5 := by omega
        subst hc
        have g2 : (((5 : Nat) : Int) < 5) = False := by simp
        rw [fR]
        unfold iotaF
        generalize chG B A 5 = C at *
        have eC := encW_get (l := C) (i := 0) (by omega)
        have lC : (C.set 0 (C.getD 0 0 ^^^ rcW.getD r 0)).length = 25 := by rw [List.length_set]; exact lg
        have tC := takeW lC
        have q1 := q30_eq hr
        simp (config := {maxSteps := 1000000}) only [hp4, g2, eC, q1, w_xor, encW_set, setAt_all, len_encW, len_zW, lg, lC, tC, cW, a12, a21, a31, a32, a33, a34, a41, a42, a43, a44, a45, a46, tb29_e, Int.natCast_nonneg, Nat.le_refl, Int.le_refl, List.take_succ_cons, List.take_zero, decide_true, decide_false, Bool.and_false, Bool.false_and, zz, zzN, zzF, fltEv, isArithF, ↓reduceIte, Nat.reduceEqDiff, Nat.reduceBEq, Int.reduceLT, Int.reduceLE, Int.reduceToNat, Int.reduceEq, Int.reduceAdd, Int.reduceSub, Int.reduceMul, Int.reduceNeg, Nat.reduceMul, Nat.reduceSub, Nat.reduceLeDiff, Nat.reduceLT, Int.reduceGT, Int.reduceBEq, Int.reduceBNe, reduceCtorEq, Nat.reduceAdd, Ins.map, Fr.ev, argFr, argE, binEv, intEv, shEv, strEv, unEv, Fr.mark, evRes, tup, lenD, lookupD, loadD, partD, storeD, cellsD, cellOk, setAt, objNe, objSame, eqEv, readEv, buildD, buildRows, rowsOf, elemsOf]
end Go.Proofs.Ytiilnakenlegmaa.Zz
