/- Contracts: lex: a word, all words. -/
import Derived.Test.YthpgepillaeldaaDoorZL2
namespace Go.Proofs.YthpgepillaeldaaDoor.Zz
set_option linter.unusedVariables false
set_option linter.unusedSimpArgs false
set_option maxRecDepth 20000
def p77 : Plan := ⟨⟨[], [], [], [], [], []⟩, [(5, [0, 1, 2, 3, 4, 5, 6, 7, 8, 9, 10, 11, 12]), (9, [0, 1, 2, 3, 4, 5])]⟩
/-- cupel/lex.number (2 parameters, 0 captured) -/
def s77 : Stm :=
  .seq (.ops [⟨.alloc [(.int .i64 0), (.str []), (.int .i64 0)], (some 4), none, false⟩,
     ⟨.mov (.c (.bool false)), (some 5), none, true⟩])
  (.seq (.ops [⟨.mov (.t 0), (some 9), none, true⟩,
     ⟨.mov (.t 1), (some 10), none, true⟩,
     ⟨.qcall (.f 58) [(.t 9), (.t 10), (.f 60)], (some 11), none, false⟩,
     ⟨.mov (.t 11), (some 6), none, true⟩])
  (.seq (.ops [⟨.mov (.t 0), (some 12), none, true⟩,
     ⟨.mov (.t 1), (some 13), none, true⟩,
     ⟨.mov (.t 1), (some 14), none, true⟩,
     ⟨.mov (.t 6), (some 15), none, true⟩,
     ⟨.bin .add (.t 14) (.t 15), (some 16), none, true⟩,
     ⟨.slice .str (.t 12) (some (.t 13)) (some (.t 16)) none, (some 17), none, false⟩,
     ⟨.mov (.t 1), (some 18), none, true⟩,
     ⟨.build [(.int .i64 0), (.str []), (.int .i64 0)] [(0, 1, (.c (.int .i64 2))), (1, 1, (.t 17)), (2, 1, (.t 18))], (some 19), none, true⟩,
     ⟨.alloc [(.int .i64 0), (.str []), (.int .i64 0)], (some 7), none, false⟩,
     ⟨.store 3 (.t 7) (.t 19), none, none, false⟩])
  (.seq (.seq (.ops [⟨.mov (.t 1), (some 20), none, true⟩,
      ⟨.mov (.t 6), (some 21), none, true⟩,
      ⟨.bin .add (.t 20) (.t 21), (some 22), none, true⟩,
      ⟨.mov (.t 0), (some 23), none, true⟩,
      ⟨.len .str (.t 23), (some 24), none, false⟩,
      ⟨.bin .lss (.t 22) (.t 24), (some 25), none, true⟩,
      ⟨.mov (.t 25), (some 26), none, true⟩,
      ⟨.mov (.t 0), (some 27), (some (26, true)), true⟩,
      ⟨.mov (.t 1), (some 28), (some (26, true)), true⟩,
      ⟨.mov (.t 6), (some 29), (some (26, true)), true⟩,
      ⟨.bin .add (.t 28) (.t 29), (some 30), (some (26, true)), true⟩,
      ⟨.indexS (.t 27) (.t 30), (some 31), (some (26, true)), true⟩,
      ⟨.bin .eql (.t 31) (.c (.int .u8 46)), (some 32), (some (26, true)), true⟩,
      ⟨.pick (.t 26) (.t 32) (.c (.bool false)), (some 33), none, true⟩])
   (.cond (.t 33)
    (.seq (.ops [⟨.mov (.t 0), (some 34), none, true⟩,
        ⟨.mov (.t 1), (some 35), none, true⟩,
        ⟨.mov (.t 6), (some 36), none, true⟩,
        ⟨.bin .add (.t 35) (.t 36), (some 37), none, true⟩,
        ⟨.bin .add (.t 37) (.c (.int .i64 1)), (some 38), none, true⟩,
        ⟨.qcall (.f 58) [(.t 34), (.t 38), (.f 60)], (some 39), none, false⟩,
        ⟨.mov (.t 39), (some 8), none, true⟩])
     (.seq (.ops [⟨.mov (.t 0), (some 40), none, true⟩,
        ⟨.mov (.t 1), (some 41), none, true⟩,
        ⟨.mov (.t 1), (some 42), none, true⟩,
        ⟨.mov (.t 6), (some 43), none, true⟩,
        ⟨.bin .add (.t 42) (.t 43), (some 44), none, true⟩,
        ⟨.bin .add (.t 44) (.c (.int .i64 1)), (some 45), none, true⟩,
        ⟨.mov (.t 8), (some 46), none, true⟩,
        ⟨.bin .add (.t 45) (.t 46), (some 47), none, true⟩,
        ⟨.slice .str (.t 40) (some (.t 41)) (some (.t 47)) none, (some 48), none, true⟩,
        ⟨.fieldAddr 0 (.t 7), (some 49), none, true⟩,
        ⟨.store 1 (.t 49) (.c (.int .i64 3)), none, none, false⟩,
        ⟨.fieldAddr 1 (.t 7), (some 50), none, true⟩,
        ⟨.store 1 (.t 50) (.t 48), none, none, false⟩])
     (.seq (.seq (.ops [⟨.mov (.t 8), (some 51), none, true⟩,
         ⟨.bin .eql (.t 51) (.c (.int .i64 0)), (some 52), none, true⟩,
         ⟨.mov (.t 52), (some 53), none, true⟩,
         ⟨.mov (.t 6), (some 54), (some (53, false)), true⟩,
         ⟨.mov (.t 8), (some 55), (some (53, false)), true⟩,
         ⟨.bin .add (.t 54) (.t 55), (some 56), (some (53, false)), true⟩,
         ⟨.bin .gtr (.t 56) (.c (.int .i64 15)), (some 57), (some (53, false)), true⟩,
         ⟨.pick (.t 53) (.c (.bool true)) (.t 57), (some 58), none, true⟩])
      (.cond (.t 58)
       (.seq (.ops [⟨.load (some 3) (.t 7), (some 59), none, false⟩,
           ⟨.store 3 (.t 4) (.t 59), none, none, false⟩,
           ⟨.mov (.c (.bool false)), (some 5), none, true⟩])
        (.ret))
       (.skip)))
     (.seq (.ops [⟨.load (some 3) (.t 7), (some 60), none, false⟩,
        ⟨.store 3 (.t 4) (.t 60), none, none, false⟩,
        ⟨.mov (.c (.bool true)), (some 5), none, true⟩])
     (.ret)))))
    (.skip)))
  (.seq (.ops [⟨.load (some 3) (.t 7), (some 61), none, false⟩,
     ⟨.fieldAddr 1 (.t 7), (some 62), none, true⟩,
     ⟨.load none (.t 62), (some 63), none, false⟩,
     ⟨.qcall (.f 92) [(.t 63)], (some 64), none, false⟩,
     ⟨.store 3 (.t 4) (.t 61), none, none, false⟩,
     ⟨.mov (.t 64), (some 5), none, true⟩])
  (.ret)))))
theorem st77 : stmOf Tryd.prog 61 p77 = some (s77, [.cell 4 (some 3), .tmp 5], 65) := by kernel_rfl

def p79 : Plan := ⟨⟨[], [], [], [], [], []⟩, []⟩
/-- cupel/lex.signs (0 parameters, 0 captured) -/
def s79 : Stm :=
  .seq (.ops [⟨.mov (.c .nilsl), (some 0), none, true⟩])
  (.seq (.ops [⟨.buildSlice 1 [(.str [])] 22 [(0, (.c (.str [58, 61]))), (1, (.c (.str [60, 61]))), (2, (.c (.str [62, 61]))), (3, (.c (.str [61, 61]))), (4, (.c (.str [33, 61]))), (5, (.c (.str [38, 38]))), (6, (.c (.str [124, 124]))), (7, (.c (.str [40]))), (8, (.c (.str [41]))), (9, (.c (.str [123]))), (10, (.c (.str [125]))), (11, (.c (.str [44]))), (12, (.c (.str [59]))), (13, (.c (.str [61]))), (14, (.c (.str [43]))), (15, (.c (.str [45]))), (16, (.c (.str [42]))), (17, (.c (.str [47]))), (18, (.c (.str [37]))), (19, (.c (.str [60]))), (20, (.c (.str [62]))), (21, (.c (.str [33])))] false, (some 1), none, true⟩,
     ⟨.mov (.t 1), (some 0), none, true⟩])
  (.ret))
theorem st79 : stmOf Tryd.prog 65 p79 = some (s79, [.tmp 0], 2) := by kernel_rfl

def p51 : Plan := ⟨⟨[], [], [], [], [], []⟩, []⟩
/-- cupel/lex.one (2 parameters, 0 captured) -/
def s51 : Stm :=
  .seq (.ops [⟨.alloc [(.int .i64 0), (.str []), (.int .i64 0)], (some 4), none, false⟩,
     ⟨.mov (.c (.bool false)), (some 5), none, true⟩])
  (.seq (.seq (.ops [⟨.mov (.t 0), (some 10), none, true⟩,
      ⟨.mov (.t 1), (some 11), none, true⟩,
      ⟨.indexS (.t 10) (.t 11), (some 12), none, true⟩,
      ⟨.mov (.t 12), (some 6), none, true⟩])
   (.block 0 (.seq (.ops [⟨.mov (.t 6), (some 14), none, true⟩,
       ⟨.qcall (.f 60) [(.t 14)], (some 15), none, false⟩,
       ⟨.mov (.t 15), (some 13), none, true⟩])
    (.cond (.t 13)
     (.seq (.ops [⟨.mov (.t 0), (some 16), none, true⟩,
         ⟨.mov (.t 1), (some 17), none, true⟩,
         ⟨.qcall (.f 61) [(.t 16), (.t 17)], (some 18), none, false⟩,
         ⟨.extract (.t 18) 0, (some 19), none, true⟩,
         ⟨.extract (.t 18) 1, (some 20), none, true⟩,
         ⟨.store 3 (.t 4) (.t 19), none, none, false⟩,
         ⟨.mov (.t 20), (some 5), none, true⟩])
      (.ret))
     (.seq (.ops [⟨.mov (.t 6), (some 22), none, true⟩,
         ⟨.qcall (.f 62) [(.t 22)], (some 23), none, false⟩,
         ⟨.mov (.t 23), (some 21), none, true⟩])
      (.cond (.t 21)
       (.seq (.ops [⟨.mov (.t 0), (some 24), none, true⟩,
           ⟨.mov (.t 1), (some 25), none, true⟩,
           ⟨.mov (.t 1), (some 26), none, true⟩,
           ⟨.mov (.t 0), (some 27), none, true⟩,
           ⟨.mov (.t 1), (some 28), none, true⟩,
           ⟨.qcall (.f 58) [(.t 27), (.t 28), (.f 63)], (some 29), none, false⟩,
           ⟨.bin .add (.t 26) (.t 29), (some 30), none, true⟩,
           ⟨.slice .str (.t 24) (some (.t 25)) (some (.t 30)) none, (some 31), none, false⟩,
           ⟨.mov (.t 31), (some 7), none, true⟩])
        (.seq (.seq (.ops [⟨.mov (.t 7), (some 32), none, true⟩,
            ⟨.qcall (.f 64) [(.t 32)], (some 33), none, false⟩])
         (.cond (.t 33)
          (.seq (.ops [⟨.mov (.t 7), (some 34), none, true⟩,
              ⟨.mov (.t 1), (some 35), none, true⟩,
              ⟨.build [(.int .i64 0), (.str []), (.int .i64 0)] [(0, 1, (.c (.int .i64 4))), (1, 1, (.t 34)), (2, 1, (.t 35))], (some 36), none, true⟩,
              ⟨.store 3 (.t 4) (.t 36), none, none, false⟩,
              ⟨.mov (.c (.bool true)), (some 5), none, true⟩])
           (.ret))
          (.skip)))
        (.seq (.ops [⟨.mov (.t 7), (some 37), none, true⟩,
           ⟨.mov (.t 1), (some 38), none, true⟩,
           ⟨.build [(.int .i64 0), (.str []), (.int .i64 0)] [(0, 1, (.c (.int .i64 1))), (1, 1, (.t 37)), (2, 1, (.t 38))], (some 39), none, true⟩,
           ⟨.mov (.t 7), (some 40), none, true⟩,
           ⟨.len .str (.t 40), (some 41), none, false⟩,
           ⟨.bin .leq (.t 41) (.c (.int .i64 16)), (some 42), none, true⟩,
           ⟨.store 3 (.t 4) (.t 39), none, none, false⟩,
           ⟨.mov (.t 42), (some 5), none, true⟩])
        (.ret))))
       (.skip)))))))
  (.seq (.seq (.ops [⟨.qcall (.f 65) [], (some 43), none, false⟩,
      ⟨.len .sl (.t 43), (some 44), none, false⟩,
      ⟨.mov (.c (.int .i64 0)), (some 45), none, true⟩])
   (.block 1 (.loop (.seq (.ops [⟨.bin .lss (.t 45) (.t 44), (some 46), none, true⟩])
     (.seq (.cond (.t 46)
       (.skip)
       (.exit 1))
     (.seq (.block 2 (.seq (.ops [⟨.indexAddrS 1 (.t 43) (.t 45), (some 47), none, false⟩,
          ⟨.load none (.t 47), (some 48), none, false⟩,
          ⟨.mov (.t 48), (some 9), none, true⟩])
       (.seq (.ops [⟨.mov (.t 0), (some 49), none, true⟩,
          ⟨.mov (.t 1), (some 50), none, true⟩,
          ⟨.slice .str (.t 49) (some (.t 50)) none none, (some 51), none, false⟩,
          ⟨.mov (.t 9), (some 52), none, true⟩,
          ⟨.qcall (.f 57) [(.t 51), (.t 52)], (some 53), none, false⟩])
       (.cond (.t 53)
        (.seq (.ops [⟨.mov (.t 9), (some 54), none, true⟩,
            ⟨.mov (.t 1), (some 55), none, true⟩,
            ⟨.build [(.int .i64 0), (.str []), (.int .i64 0)] [(0, 1, (.c (.int .i64 5))), (1, 1, (.t 54)), (2, 1, (.t 55))], (some 56), none, true⟩,
            ⟨.store 3 (.t 4) (.t 56), none, none, false⟩,
            ⟨.mov (.c (.bool true)), (some 5), none, true⟩])
         (.ret))
        (.skip)))))
     (.ops [⟨.bin .add (.t 45) (.c (.int .i64 1)), (some 57), none, true⟩,
       ⟨.mov (.t 57), (some 45), none, true⟩])))))))
  (.seq (.ops [⟨.build [(.int .i64 0), (.str []), (.int .i64 0)] [], (some 58), none, true⟩,
     ⟨.store 3 (.t 4) (.t 58), none, none, false⟩,
     ⟨.mov (.c (.bool false)), (some 5), none, true⟩])
  (.ret))))
theorem st51 : stmOf Tryd.prog 35 p51 = some (s51, [.cell 4 (some 3), .tmp 5], 59) := by kernel_rfl

def p23 : Plan := ⟨⟨[], [], [], [], [], []⟩, []⟩
/-- cupel/lex.Tokens (1 parameters, 0 captured) -/
def s23 : Stm :=
  .seq (.ops [⟨.mov (.c .nilsl), (some 2), none, true⟩,
     ⟨.mov (.c (.int .i64 0)), (some 3), none, true⟩,
     ⟨.mov (.c (.int .i64 0)), (some 4), none, true⟩])
  (.seq (.seq (.ops [⟨.mov (.t 0), (some 9), none, true⟩,
      ⟨.len .str (.t 9), (some 10), none, false⟩,
      ⟨.bin .gtr (.t 10) (.c (.int .i64 4096)), (some 11), none, true⟩])
   (.cond (.t 11)
    (.seq (.ops [⟨.mov (.c .nilsl), (some 2), none, true⟩,
        ⟨.mov (.c (.int .i64 4096)), (some 3), none, true⟩,
        ⟨.mov (.c (.int .i64 3)), (some 4), none, true⟩])
     (.ret))
    (.skip)))
  (.seq (.ops [⟨.mov (.c .nilsl), (some 5), none, true⟩])
  (.seq (.ops [⟨.mov (.t 0), (some 12), none, true⟩,
     ⟨.qcall (.f 34) [(.t 12), (.c (.int .i64 0))], (some 13), none, false⟩,
     ⟨.mov (.t 13), (some 6), none, true⟩])
  (.seq (.block 0 (.loop (.seq (.seq (.ops [⟨.mov (.t 6), (some 14), none, true⟩,
         ⟨.mov (.t 0), (some 15), none, true⟩,
         ⟨.len .str (.t 15), (some 16), none, false⟩,
         ⟨.bin .lss (.t 14) (.t 16), (some 17), none, true⟩])
      (.cond (.t 17)
       (.skip)
       (.exit 0)))
     (.block 1 (.seq (.ops [⟨.mov (.t 0), (some 19), none, true⟩,
         ⟨.mov (.t 6), (some 20), none, true⟩,
         ⟨.qcall (.f 35) [(.t 19), (.t 20)], (some 21), none, false⟩,
         ⟨.mov (.t 21), (some 18), none, true⟩,
         ⟨.extract (.t 18) 0, (some 22), none, true⟩,
         ⟨.extract (.t 18) 1, (some 23), none, true⟩,
         ⟨.alloc [(.int .i64 0), (.str []), (.int .i64 0)], (some 7), none, false⟩,
         ⟨.store 3 (.t 7) (.t 22), none, none, false⟩,
         ⟨.mov (.t 23), (some 8), none, true⟩])
      (.seq (.seq (.ops [⟨.mov (.t 8), (some 24), none, true⟩,
          ⟨.un .not (.t 24), (some 25), none, true⟩])
       (.cond (.t 25)
        (.seq (.ops [⟨.mov (.t 6), (some 26), none, true⟩,
            ⟨.mov (.c .nilsl), (some 2), none, true⟩,
            ⟨.mov (.t 26), (some 3), none, true⟩,
            ⟨.mov (.c (.int .i64 90)), (some 4), none, true⟩])
         (.ret))
        (.skip)))
      (.seq (.ops [⟨.mov (.t 5), (some 27), none, true⟩,
         ⟨.load (some 3) (.t 7), (some 28), none, false⟩,
         ⟨.buildSlice 3 [(.int .i64 0), (.str []), (.int .i64 0)] 1 [(0, (.t 28))] false, (some 29), none, true⟩,
         ⟨.append 3 32 false (.t 27) (.t 29), (some 30), none, false⟩,
         ⟨.mov (.t 30), (some 5), none, true⟩])
      (.seq (.ops [⟨.mov (.t 6), (some 31), none, true⟩,
         ⟨.fieldAddr 1 (.t 7), (some 32), none, true⟩,
         ⟨.load none (.t 32), (some 33), none, false⟩,
         ⟨.len .str (.t 33), (some 34), none, false⟩,
         ⟨.bin .add (.t 31) (.t 34), (some 35), none, true⟩,
         ⟨.mov (.t 35), (some 6), none, true⟩])
      (.ops [⟨.mov (.t 6), (some 36), none, true⟩,
        ⟨.mov (.t 0), (some 37), none, true⟩,
        ⟨.mov (.t 6), (some 38), none, true⟩,
        ⟨.qcall (.f 34) [(.t 37), (.t 38)], (some 39), none, false⟩,
        ⟨.bin .add (.t 36) (.t 39), (some 40), none, true⟩,
        ⟨.mov (.t 40), (some 6), none, true⟩])))))))))
  (.seq (.ops [⟨.mov (.t 5), (some 41), none, true⟩,
     ⟨.mov (.t 0), (some 42), none, true⟩,
     ⟨.len .str (.t 42), (some 43), none, false⟩,
     ⟨.build [(.int .i64 0), (.str []), (.int .i64 0)] [(0, 1, (.c (.int .i64 0))), (2, 1, (.t 43))], (some 44), none, true⟩,
     ⟨.buildSlice 3 [(.int .i64 0), (.str []), (.int .i64 0)] 1 [(0, (.t 44))] false, (some 45), none, true⟩,
     ⟨.append 3 32 false (.t 41) (.t 45), (some 46), none, false⟩,
     ⟨.mov (.t 46), (some 2), none, true⟩,
     ⟨.mov (.c (.int .i64 0)), (some 3), none, true⟩,
     ⟨.mov (.c (.int .i64 0)), (some 4), none, true⟩])
  (.ret))))))
theorem st23 : stmOf Tryd.prog 9 p23 = some (s23, [.tmp 2, .tmp 3, .tmp 4], 47) := by kernel_rfl


/-- The number at the front: its kind, its bytes, whether it may be. -/
def numL (l : List UInt8) : Int × List UInt8 × Bool :=
  if decide (spn isDigit l < l.length) && ((l.getD (spn isDigit l) 0).toNat : Int) == 46 then
    (3, l.take (spn isDigit l + 1 + spn isDigit (l.drop (spn isDigit l + 1))), !(decide (spn isDigit (l.drop (spn isDigit l + 1)) = 0) || decide (15 < spn isDigit l + spn isDigit (l.drop (spn isDigit l + 1)))))
  else (2, l.take (spn isDigit l), wholeL (l.take (spn isDigit l)))
def tokD (k : Int) (s : List UInt8) (a : Int) : List D := [.int .i64 k, .str s, .int .i64 a]

set_option maxHeartbeats 1000000 in
theorem lexNumber_c (s : List UInt8) (a : Nat) (h1 : a ≤ s.length) (h2 : s.length ≤ 100000) : PCall Tryd.prog 61 [.str s, .int .i64 a] (.tuple [.agg (tokD (numL (s.drop a)).1 (numL (s.drop a)).2.1 a), .bool (numL (s.drop a)).2.2]) := by
  refine PCall.run tb50_ok st77 (by simp) fun E => ?_
  have g2 : (s.length ≤ 1000000) = True := by simp; omega
  have g3 : ((a : Int) ≤ 1000000) = True := by simp; omega
  have g0 : (0 ≤ (a : Int)) = True := by simp
  have hl := spn_le isDigit (s.drop a)
  rw [List.length_drop] at hl
  obtain ⟨n, hn⟩ : ∃ n, n = spn isDigit (s.drop a) := ⟨_, rfl⟩
  rw [← hn] at hl
  have w1 : IntKind.i64.wrap ((a : Int) + (n : Int)) = ((a + n : Nat) : Int) := wrap_add (by omega)
  have e0 : (s.drop a).getD n 0 = s.getD (a + n) 0 := by simp [List.getD]
  have e1 : (s.drop a).drop (n + 1) = s.drop (a + n + 1) := by rw [List.drop_drop]; rfl
  have e2 : (s.drop a).length = s.length - a := by simp
  have tt : ∀ k, (s.drop a).take (a + k - a) = (s.drop a).take k := fun k => by rw [Nat.add_sub_cancel_left]
  simp only [numL, ← hn, e0, e1, e2]
  by_cases c1 : a + n < s.length
  · have g4 : (((a + n : Nat) : Int) < (s.length : Int)) = True := by simp; omega
    have g4' : (n < s.length - a) = True := by simp; omega
    cases c2 : (((s.getD (a + n) 0).toNat : Int) == 46) with
    | true =>
      obtain ⟨m, hm⟩ : ∃ m, m = spn isDigit (s.drop (a + n + 1)) := ⟨_, rfl⟩
      have hl2 := spn_le isDigit (s.drop (a + n + 1))
      rw [List.length_drop, ← hm] at hl2
      have w2 : IntKind.i64.wrap (((a + n : Nat) : Int) + 1) = ((a + n + 1 : Nat) : Int) := wrap_succ (by omega)
      have w3 : IntKind.i64.wrap (((a + n + 1 : Nat) : Int) + (m : Int)) = ((a + n + 1 + m : Nat) : Int) := wrap_add (by omega)
      have w4 : IntKind.i64.wrap ((n : Int) + (m : Int)) = ((n + m : Nat) : Int) := wrap_add (by omega)
      have g5 : (((a + n + 1 : Nat) : Int) ≤ 1000000) = True := by simp; omega
      have g6 : (0 ≤ ((a + n + 1 : Nat) : Int)) = True := by simp; omega
      have t2 : (s.drop a).take (a + n + 1 + m - a) = (s.drop a).take (n + 1 + m) := by congr 1; omega
      simp (config := {maxSteps := 1000000}) only [s77, g0, g2, g3, g4, g4', g5, g6, ← hn, ← hm, w1, w2, w3, w4, t2, c2, q75, isByteP, decide_true, tb50_e, zz, zzN, zzF, fltEv, isArithF, ↓reduceIte, Nat.reduceEqDiff, Nat.reduceBEq, Int.reduceLT, Int.reduceLE, Int.reduceToNat, Int.reduceEq, Int.reduceAdd, Int.reduceSub, Int.reduceMul, Int.reduceNeg, Nat.reduceMul, Nat.reduceSub, Nat.reduceLeDiff, Nat.reduceLT, Int.reduceGT, Int.reduceBEq, Int.reduceBNe, reduceCtorEq, Nat.reduceAdd, Ins.map, Fr.ev, argFr, argE, binEv, intEv, shEv, strEv, unEv, Fr.mark, evRes, tup, lenD, lookupD, loadD, partD, storeD, cellsD, cellOk, setAt, objNe, objSame, eqEv, readEv, buildD, buildRows, rowsOf, elemsOf]
      intro id
      refine ⟨by omega, fun id2 f1 f2 _ => ⟨by omega, by omega, ?_⟩⟩
      simp (config := {maxSteps := 1000000}) only [f1, f2, g4, ← hn, w1, c2, t2, tt, List.take_succ_cons, List.take_zero, tokD, tb50_e, zz, zzN, zzF, fltEv, isArithF, ↓reduceIte, Nat.reduceEqDiff, Nat.reduceBEq, Int.reduceLT, Int.reduceLE, Int.reduceToNat, Int.reduceEq, Int.reduceAdd, Int.reduceSub, Int.reduceMul, Int.reduceNeg, Nat.reduceMul, Nat.reduceSub, Nat.reduceLeDiff, Nat.reduceLT, Int.reduceGT, Int.reduceBEq, Int.reduceBNe, reduceCtorEq, Nat.reduceAdd, Ins.map, Fr.ev, argFr, argE, binEv, intEv, shEv, strEv, unEv, Fr.mark, evRes, tup, lenD, lookupD, loadD, partD, storeD, cellsD, cellOk, setAt, objNe, objSame, eqEv, readEv, buildD, buildRows, rowsOf, elemsOf]
      (repeat' split) <;> simp_all <;> omega
    | false =>
      simp (config := {maxSteps := 1000000}) only [s77, g0, g2, g3, g4, g4', ← hn, w1, c2, q75, q85, tt, isByteP, decide_true, Bool.and_false, tb50_e, zz, zzN, zzF, fltEv, isArithF, ↓reduceIte, Nat.reduceEqDiff, Nat.reduceBEq, Int.reduceLT, Int.reduceLE, Int.reduceToNat, Int.reduceEq, Int.reduceAdd, Int.reduceSub, Int.reduceMul, Int.reduceNeg, Nat.reduceMul, Nat.reduceSub, Nat.reduceLeDiff, Nat.reduceLT, Int.reduceGT, Int.reduceBEq, Int.reduceBNe, reduceCtorEq, Nat.reduceAdd, Ins.map, Fr.ev, argFr, argE, binEv, intEv, shEv, strEv, unEv, Fr.mark, evRes, tup, lenD, lookupD, loadD, partD, storeD, cellsD, cellOk, setAt, objNe, objSame, eqEv, readEv, buildD, buildRows, rowsOf, elemsOf]
      intro id
      refine ⟨by omega, fun id2 f1 f2 _ => ⟨by omega, ?_⟩⟩
      simp (config := {maxSteps := 1000000}) only [f1, f2, g4, ← hn, w1, c2, tt, List.take_succ_cons, List.take_zero, tokD, tb50_e, zz, zzN, zzF, fltEv, isArithF, ↓reduceIte, Nat.reduceEqDiff, Nat.reduceBEq, Int.reduceLT, Int.reduceLE, Int.reduceToNat, Int.reduceEq, Int.reduceAdd, Int.reduceSub, Int.reduceMul, Int.reduceNeg, Nat.reduceMul, Nat.reduceSub, Nat.reduceLeDiff, Nat.reduceLT, Int.reduceGT, Int.reduceBEq, Int.reduceBNe, reduceCtorEq, Nat.reduceAdd, Ins.map, Fr.ev, argFr, argE, binEv, intEv, shEv, strEv, unEv, Fr.mark, evRes, tup, lenD, lookupD, loadD, partD, storeD, cellsD, cellOk, setAt, objNe, objSame, eqEv, readEv, buildD, buildRows, rowsOf, elemsOf]
  · have g4 : (((a + n : Nat) : Int) < (s.length : Int)) = False := by simp; omega
    have g4' : (n < s.length - a) = False := by simp; omega
    simp (config := {maxSteps := 1000000}) only [s77, g0, g2, g3, g4, g4', ← hn, w1, q75, q85, tt, isByteP, decide_false, Bool.false_and, tb50_e, zz, zzN, zzF, fltEv, isArithF, ↓reduceIte, Nat.reduceEqDiff, Nat.reduceBEq, Int.reduceLT, Int.reduceLE, Int.reduceToNat, Int.reduceEq, Int.reduceAdd, Int.reduceSub, Int.reduceMul, Int.reduceNeg, Nat.reduceMul, Nat.reduceSub, Nat.reduceLeDiff, Nat.reduceLT, Int.reduceGT, Int.reduceBEq, Int.reduceBNe, reduceCtorEq, Nat.reduceAdd, Ins.map, Fr.ev, argFr, argE, binEv, intEv, shEv, strEv, unEv, Fr.mark, evRes, tup, lenD, lookupD, loadD, partD, storeD, cellsD, cellOk, setAt, objNe, objSame, eqEv, readEv, buildD, buildRows, rowsOf, elemsOf]
    intro id
    refine ⟨by omega, fun id2 f1 f2 _ => ?_⟩
    simp (config := {maxSteps := 1000000}) only [f1, f2, g4, ← hn, w1, tt, List.take_succ_cons, List.take_zero, tokD, tb50_e, zz, zzN, zzF, fltEv, isArithF, ↓reduceIte, Nat.reduceEqDiff, Nat.reduceBEq, Int.reduceLT, Int.reduceLE, Int.reduceToNat, Int.reduceEq, Int.reduceAdd, Int.reduceSub, Int.reduceMul, Int.reduceNeg, Nat.reduceMul, Nat.reduceSub, Nat.reduceLeDiff, Nat.reduceLT, Int.reduceGT, Int.reduceBEq, Int.reduceBNe, reduceCtorEq, Nat.reduceAdd, Ins.map, Fr.ev, argFr, argE, binEv, intEv, shEv, strEv, unEv, Fr.mark, evRes, tup, lenD, lookupD, loadD, partD, storeD, cellsD, cellOk, setAt, objNe, objSame, eqEv, readEv, buildD, buildRows, rowsOf, elemsOf]
theorem lexNumber_c' (s : List UInt8) (a : Int) (h : 0 ≤ a ∧ a ≤ s.length ∧ s.length ≤ 100000) : PCall Tryd.prog 61 [.str s, .int .i64 a] (.tuple [.agg (tokD (numL (s.drop a.toNat)).1 (numL (s.drop a.toNat)).2.1 a), .bool (numL (s.drop a.toNat)).2.2]) := by
  have := lexNumber_c s a.toNat (by omega) h.2.2
  rwa [Int.toNat_of_nonneg h.1] at this
def q77 : List D → Option D
  | [.str s, .int .i64 a] => if 0 ≤ a ∧ a ≤ s.length ∧ s.length ≤ 100000 then some (.tuple [.agg (tokD (numL (s.drop a.toNat)).1 (numL (s.drop a.toNat)).2.1 a), .bool (numL (s.drop a.toNat)).2.2]) else none
  | _ => none
theorem q77_ok (args : List D) (d : D) (h : q77 args = some d) : PCall Tryd.prog 61 args d := by
  unfold q77 at h
  split at h
  · split at h
    · cases h; exact lexNumber_c' _ _ (by assumption)
    · cases h
  · cases h

def tb77 : Tab := tb50.addQ 61 q77
theorem tb77_q (g : FuncId) (args : List D) : tb77.q g args = if g = 61 then q77 args else tb50.q g args := rfl
theorem tb77_a : tb77.a = tb50.a := rfl
theorem tb77_c : tb77.c = tb50.c := rfl
theorem tb77_ok : tb77.ok Tryd.prog := Tab.addQ_ok tb50_ok q77_ok
theorem tb77_e : type_of% (And.intro (And.intro @tb77_q (And.intro @tb77_a @tb77_c)) @tb50_e) := (And.intro (And.intro @tb77_q (And.intro @tb77_a @tb77_c)) @tb50_e)


/-- All signs, the longer ones first. -/
def signs : List (List UInt8) := [[58, 61], [60, 61], [62, 61], [61, 61], [33, 61], [38, 38], [124, 124], [40], [41], [123], [125], [44], [59], [61], [43], [45], [42], [47], [37], [60], [62], [33]]
theorem signs_c : PCall Tryd.prog 65 [] (.sl (encS signs)) := by
  refine PCall.run tb77_ok st79 (by simp) fun E => ?_
  simp only [s79, signs, encS, tb77_e, zz, zzN, zzF, fltEv, isArithF, ↓reduceIte, Nat.reduceEqDiff, Nat.reduceBEq, Int.reduceLT, Int.reduceLE, Int.reduceToNat, Int.reduceEq, Int.reduceAdd, Int.reduceSub, Int.reduceMul, Int.reduceNeg, Nat.reduceMul, Nat.reduceSub, Nat.reduceLeDiff, Nat.reduceLT, Int.reduceGT, Int.reduceBEq, Int.reduceBNe, reduceCtorEq, Nat.reduceAdd, Ins.map, Fr.ev, argFr, argE, binEv, intEv, shEv, strEv, unEv, Fr.mark, evRes, tup, lenD, lookupD, loadD, partD, storeD, cellsD, cellOk, setAt, objNe, objSame, eqEv, readEv, buildD, buildRows, rowsOf, elemsOf]
def q79 : List D → Option D
  | [] => if True then some (.sl (encS signs)) else none
  | _ => none
theorem q79_ok (args : List D) (d : D) (h : q79 args = some d) : PCall Tryd.prog 65 args d := by
  unfold q79 at h
  split at h
  · split at h
    · cases h; exact signs_c
    · cases h
  · cases h

def tb79 : Tab := tb77.addQ 65 q79
theorem tb79_q (g : FuncId) (args : List D) : tb79.q g args = if g = 65 then q79 args else tb77.q g args := rfl
theorem tb79_a : tb79.a = tb77.a := rfl
theorem tb79_c : tb79.c = tb77.c := rfl
theorem tb79_ok : tb79.ok Tryd.prog := Tab.addQ_ok tb77_ok q79_ok
theorem tb79_e : type_of% (And.intro (And.intro @tb79_q (And.intro @tb79_a @tb79_c)) @tb77_e) := (And.intro (And.intro @tb79_q (And.intro @tb79_a @tb79_c)) @tb77_e)

def firstPre (l : List UInt8) : List (List UInt8) → Option (List UInt8)
  | [] => none
  | x :: xs => if pre l x = true then some x else firstPre l xs
/-- The word at the front: its kind, its bytes, whether it may be. -/
def oneL (l : List UInt8) : Int × List UInt8 × Bool :=
  if isDigit ((l.getD 0 0).toNat : Int) = true then numL l
  else if isLetter ((l.getD 0 0).toNat : Int) = true then
    (if words.contains (l.take (spn nameP l)) = true then (4, l.take (spn nameP l), true) else (1, l.take (spn nameP l), decide (spn nameP l ≤ 16)))
  else match firstPre l signs with
    | some x => (5, x, true)
    | none => (0, [], false)
def oneD (l : List UInt8) (a : Int) : D := .tuple [.agg (tokD (oneL l).1 (oneL l).2.1 (if (oneL l).1 = 0 then 0 else a)), .bool (oneL l).2.2]

set_option maxHeartbeats 1000000 in
theorem one_c (s : List UInt8) (a : Nat) (h1 : a < s.length) (h2 : s.length ≤ 100000) : PCall Tryd.prog 35 [.str s, .int .i64 a] (oneD (s.drop a) a) := by
  refine PCall.run tb79_ok st51 (by simp) fun E => ?_
  have g2 : (s.length ≤ 100000) = True := by simp; omega
  have g2' : (s.length ≤ 1000000) = True := by simp; omega
  have g3 : ((a : Int) ≤ (s.length : Int)) = True := by simp; omega
  have g3' : ((a : Int) ≤ 1000000) = True := by simp; omega
  have g0 : (0 ≤ (a : Int)) = True := by simp
  have e0 : (s.drop a).getD 0 0 = s.getD a 0 := by simp [List.getD]
  have ts : (s.drop a).take (s.length - a) = s.drop a := List.take_of_length_le (by simp)
  simp only [oneD, oneL, e0]
  cases c1 : isDigit ((s.getD a 0).toNat : Int) with
  | true =>
    have k0 : ((numL (s.drop a)).1 = 0) = False := by simp only [numL]; split <;> simp
    simp (config := {maxSteps := 1000000}) only [s51, g0, g2, g3, c1, k0, q77, q63, tokD, List.take_succ_cons, List.take_zero, tb79_e, zz, zzN, zzF, fltEv, isArithF, ↓reduceIte, Nat.reduceEqDiff, Nat.reduceBEq, Int.reduceLT, Int.reduceLE, Int.reduceToNat, Int.reduceEq, Int.reduceAdd, Int.reduceSub, Int.reduceMul, Int.reduceNeg, Nat.reduceMul, Nat.reduceSub, Nat.reduceLeDiff, Nat.reduceLT, Int.reduceGT, Int.reduceBEq, Int.reduceBNe, reduceCtorEq, Nat.reduceAdd, Ins.map, Fr.ev, argFr, argE, binEv, intEv, shEv, strEv, unEv, Fr.mark, evRes, tup, lenD, lookupD, loadD, partD, storeD, cellsD, cellOk, setAt, objNe, objSame, eqEv, readEv, buildD, buildRows, rowsOf, elemsOf]
    omega
  | false =>
    cases c2 : isLetter ((s.getD a 0).toNat : Int) with
    | true =>
      obtain ⟨m, hm⟩ : ∃ m, m = spn nameP (s.drop a) := ⟨_, rfl⟩
      have hl := spn_le nameP (s.drop a)
      rw [List.length_drop, ← hm] at hl
      have w1 : IntKind.i64.wrap ((a : Int) + (m : Int)) = ((a + m : Nat) : Int) := wrap_add (by omega)
      have e3 : a + m - a = m := by omega
      have lm : ((s.drop a).take m).length = m := by simp; omega
      have dm : decide ((m : Int) ≤ 16) = decide (m ≤ 16) := decide_eq_decide.2 (by omega)
      cases c3 : words.contains ((s.drop a).take m) <;>
        simp (config := {maxSteps := 1000000}) only [s51, g0, g2, g2', g3, g3', c1, c2, c3, ← hm, w1, e3, lm, dm, q62, q63, q75, q40, isByteP, tokD, List.take_succ_cons, List.take_zero, tb79_e, zz, zzN, zzF, fltEv, isArithF, ↓reduceIte, Nat.reduceEqDiff, Nat.reduceBEq, Int.reduceLT, Int.reduceLE, Int.reduceToNat, Int.reduceEq, Int.reduceAdd, Int.reduceSub, Int.reduceMul, Int.reduceNeg, Nat.reduceMul, Nat.reduceSub, Nat.reduceLeDiff, Nat.reduceLT, Int.reduceGT, Int.reduceBEq, Int.reduceBNe, reduceCtorEq, Nat.reduceAdd, Ins.map, Fr.ev, argFr, argE, binEv, intEv, shEv, strEv, unEv, Fr.mark, evRes, tup, lenD, lookupD, loadD, partD, storeD, cellsD, cellOk, setAt, objNe, objSame, eqEv, readEv, buildD, buildRows, rowsOf, elemsOf]
      · omega
      · omega
    | false =>
      have ls : (encS signs).length = 22 := rfl
      simp (config := {maxSteps := 1000000}) only [s51, g0, g2, g3, c1, c2, ls, q62, q63, q79, tokD, List.take_succ_cons, List.take_zero, tb79_e, zz, zzN, zzF, fltEv, isArithF, ↓reduceIte, Nat.reduceEqDiff, Nat.reduceBEq, Int.reduceLT, Int.reduceLE, Int.reduceToNat, Int.reduceEq, Int.reduceAdd, Int.reduceSub, Int.reduceMul, Int.reduceNeg, Nat.reduceMul, Nat.reduceSub, Nat.reduceLeDiff, Nat.reduceLT, Int.reduceGT, Int.reduceBEq, Int.reduceBNe, reduceCtorEq, Nat.reduceAdd, Ins.map, Fr.ev, argFr, argE, binEv, intEv, shEv, strEv, unEv, Fr.mark, evRes, tup, lenD, lookupD, loadD, partD, storeD, cellsD, cellOk, setAt, objNe, objSame, eqEv, readEv, buildD, buildRows, rowsOf, elemsOf]
      intro id
      refine ⟨by omega, ?_⟩
      refine run_loop (X := Nat) (fun i => [(0, .str s), (1, .int .i64 a), (4, .ptr id 1 0), (43, .sl (encS signs)), (44, .int .i64 22), (45, .int .i64 i)]) (fun _ => AHeap.emp.set id (.cells [.int .i64 0, .str [], .int .i64 0])) (fun i => 22 - i)
        (fun i => i ≤ 22 ∧ firstPre (s.drop a) (signs.drop i) = firstPre (s.drop a) signs) 0 (by simp) ?_ (AHeap.sub_refl _) ?_
      · simp only [zz, zzN, zzF, fltEv, isArithF, ↓reduceIte, Nat.reduceEqDiff, Nat.reduceBEq, Int.reduceLT, Int.reduceLE, Int.reduceToNat, Int.reduceEq, Int.reduceAdd, Int.reduceSub, Int.reduceMul, Int.reduceNeg, Nat.reduceMul, Nat.reduceSub, Nat.reduceLeDiff, Nat.reduceLT, Int.reduceGT, Int.reduceBEq, Int.reduceBNe, reduceCtorEq, Nat.reduceAdd, Ins.map, Fr.ev, argFr, argE, binEv, intEv, shEv, strEv, unEv, Fr.mark, evRes, tup, lenD, lookupD, loadD, partD, storeD, cellsD, cellOk, setAt, objNe, objSame, eqEv, readEv, buildD, buildRows, rowsOf, elemsOf]
      · rintro i Q ⟨i1, i2⟩ hQ
        have wi : IntKind.i64.wrap ((i : Int) + 1) = ((i + 1 : Nat) : Int) := wrap_succ (by omega)
        by_cases c4 : i < 22
        · have g4 : ((i : Int) < 22) = True := by simp; omega
          have lsl : signs.length = 22 := rfl
          obtain ⟨x, hx⟩ : ∃ x, signs[i]? = some x := by rw [List.getElem?_eq_getElem (by omega)]; exact ⟨_, rfl⟩
          rw [drop_get hx] at i2
          simp only [firstPre] at i2
          cases c5 : pre (s.drop a) x with
          | true =>
            rw [if_pos c5] at i2
            simp (config := {maxSteps := 1000000}) only [g0, g3, g4, wi, ts, hx, c5, ← i2, askE_encS, q74, List.take_succ_cons, List.take_zero, tb79_e, zz, zzN, zzF, fltEv, isArithF, ↓reduceIte, Nat.reduceEqDiff, Nat.reduceBEq, Int.reduceLT, Int.reduceLE, Int.reduceToNat, Int.reduceEq, Int.reduceAdd, Int.reduceSub, Int.reduceMul, Int.reduceNeg, Nat.reduceMul, Nat.reduceSub, Nat.reduceLeDiff, Nat.reduceLT, Int.reduceGT, Int.reduceBEq, Int.reduceBNe, reduceCtorEq, Nat.reduceAdd, Ins.map, Fr.ev, argFr, argE, binEv, intEv, shEv, strEv, unEv, Fr.mark, evRes, tup, lenD, lookupD, loadD, partD, storeD, cellsD, cellOk, setAt, objNe, objSame, eqEv, readEv, buildD, buildRows, rowsOf, elemsOf]
            omega
          | false =>
            rw [if_neg (by rw [c5]; exact Bool.false_ne_true)] at i2
            simp (config := {maxSteps := 1000000}) only [g0, g3, g4, wi, ts, hx, c5, askE_encS, q74, List.take_succ_cons, List.take_zero, tb79_e, zz, zzN, zzF, fltEv, isArithF, ↓reduceIte, Nat.reduceEqDiff, Nat.reduceBEq, Int.reduceLT, Int.reduceLE, Int.reduceToNat, Int.reduceEq, Int.reduceAdd, Int.reduceSub, Int.reduceMul, Int.reduceNeg, Nat.reduceMul, Nat.reduceSub, Nat.reduceLeDiff, Nat.reduceLT, Int.reduceGT, Int.reduceBEq, Int.reduceBNe, reduceCtorEq, Nat.reduceAdd, Ins.map, Fr.ev, argFr, argE, binEv, intEv, shEv, strEv, unEv, Fr.mark, evRes, tup, lenD, lookupD, loadD, partD, storeD, cellsD, cellOk, setAt, objNe, objSame, eqEv, readEv, buildD, buildRows, rowsOf, elemsOf]
            refine ⟨by omega, ?_⟩
            refine hQ (i + 1) _ _ ⟨by omega, i2⟩ ?_ (AHeap.sub_refl _) (by omega)
            simp only [zz, zzN, zzF, fltEv, isArithF, ↓reduceIte, Nat.reduceEqDiff, Nat.reduceBEq, Int.reduceLT, Int.reduceLE, Int.reduceToNat, Int.reduceEq, Int.reduceAdd, Int.reduceSub, Int.reduceMul, Int.reduceNeg, Nat.reduceMul, Nat.reduceSub, Nat.reduceLeDiff, Nat.reduceLT, Int.reduceGT, Int.reduceBEq, Int.reduceBNe, reduceCtorEq, Nat.reduceAdd, Ins.map, Fr.ev, argFr, argE, binEv, intEv, shEv, strEv, unEv, Fr.mark, evRes, tup, lenD, lookupD, loadD, partD, storeD, cellsD, cellOk, setAt, objNe, objSame, eqEv, readEv, buildD, buildRows, rowsOf, elemsOf]
        · have g4 : ((i : Int) < 22) = False := by simp; omega
          have e : signs.drop i = [] := List.drop_of_length_le (by simp [signs]; omega)
          rw [e, firstPre] at i2
          simp (config := {maxSteps := 1000000}) only [g4, ← i2, List.take_succ_cons, List.take_zero, tb79_e, zz, zzN, zzF, fltEv, isArithF, ↓reduceIte, Nat.reduceEqDiff, Nat.reduceBEq, Int.reduceLT, Int.reduceLE, Int.reduceToNat, Int.reduceEq, Int.reduceAdd, Int.reduceSub, Int.reduceMul, Int.reduceNeg, Nat.reduceMul, Nat.reduceSub, Nat.reduceLeDiff, Nat.reduceLT, Int.reduceGT, Int.reduceBEq, Int.reduceBNe, reduceCtorEq, Nat.reduceAdd, Ins.map, Fr.ev, argFr, argE, binEv, intEv, shEv, strEv, unEv, Fr.mark, evRes, tup, lenD, lookupD, loadD, partD, storeD, cellsD, cellOk, setAt, objNe, objSame, eqEv, readEv, buildD, buildRows, rowsOf, elemsOf]
theorem one_c' (s : List UInt8) (a : Int) (h : 0 ≤ a ∧ a < s.length ∧ s.length ≤ 100000) : PCall Tryd.prog 35 [.str s, .int .i64 a] (oneD (s.drop a.toNat) a) := by
  have := one_c s a.toNat (by omega) h.2.2
  rwa [Int.toNat_of_nonneg h.1] at this
def q51 : List D → Option D
  | [.str s, .int .i64 a] => if 0 ≤ a ∧ a < s.length ∧ s.length ≤ 100000 then some (oneD (s.drop a.toNat) a) else none
  | _ => none
theorem q51_ok (args : List D) (d : D) (h : q51 args = some d) : PCall Tryd.prog 35 args d := by
  unfold q51 at h
  split at h
  · split at h
    · cases h; exact one_c' _ _ (by assumption)
    · cases h
  · cases h

def tb51 : Tab := tb79.addQ 35 q51
theorem tb51_q (g : FuncId) (args : List D) : tb51.q g args = if g = 35 then q51 args else tb79.q g args := rfl
theorem tb51_a : tb51.a = tb79.a := rfl
theorem tb51_c : tb51.c = tb79.c := rfl
theorem tb51_ok : tb51.ok Tryd.prog := Tab.addQ_ok tb79_ok q51_ok
theorem tb51_e : type_of% (And.intro (And.intro @tb51_q (And.intro @tb51_a @tb51_c)) @tb79_e) := (And.intro (And.intro @tb51_q (And.intro @tb51_a @tb51_c)) @tb79_e)

end Go.Proofs.YthpgepillaeldaaDoor.Zz
