/- Contracts: lex: a word, all words. -/
import Derived.Test.YtpagdhbmbnoddaaGreatDoorZL2
import Derived.Shelf.Strings.Builder1
import Derived.Shelf.Strings.Builder2
import Derived.Shelf.Strings.OnBuilder
import Derived.Shelf.Strings.Trim
import Derived.Shelf.Small.Utf8
import Derived.Shelf.Small.Strs
import Derived.Shelf.Strings.BuilderF
import Derived.Shelf.Strings.BuilderK
import Derived.Shelf.Strings.Builder2Cap
import Derived.Shelf.Strconv.Itoa0
import Derived.Shelf.Strconv.Itoa1
import Derived.Shelf.LaysM
import Derived.Shelf.Strconv.Itoa2
import Derived.Shelf.Strconv.Itoa3
import Derived.Shelf.Strconv.Itoa4
import Derived.Shelf.Strconv.ParseIntEmpty
import Derived.Shelf.Strconv.Clone
import Derived.Shelf.Strconv.SyntaxError
import Derived.Shelf.LaysC
import Derived.Shelf.Strconv.ToError
import Derived.Shelf.Strconv.Lower
import Derived.Shelf.Strconv.ParseUint10
import Derived.Shelf.Strconv.ParseUint10Empty
import Derived.Shelf.Strconv.ParseUint10Any
import Derived.Shelf.Strconv.ParseInt10
import Derived.Shelf.Strconv.RangeError
import Derived.Shelf.Strconv.ToErrorRange
import Derived.Shelf.Strconv.ParseUintEmpty
import Derived.Shelf.Strconv.ParseUint10b64
import Derived.Shelf.Strconv.ParseUint10b32
import Derived.Shelf.Strconv.ParseUint10b16
import Derived.Shelf.Strconv.ParseUint10b8
import Derived.Shelf.Strconv.ParseUint10At
import Derived.Shelf.Strconv.ParseInt10At64
import Derived.Shelf.Strconv.ParseInt10At32
import Derived.Shelf.Strconv.ParseInt10At16
import Derived.Shelf.Strconv.ParseInt10At8
import Derived.Shelf.Strconv.ParseInt10All
import Derived.Shelf.Strconv.ParseIntPublic10
import Derived.Shelf.Strings.Search1
import Derived.Shelf.Strings.Search2
import Derived.Shelf.Strings.Cut
import Derived.Shelf.Strings.Shaped
import Derived.Shelf.Strings.Prefix
import Derived.Shelf.Unicode.Decode
import Derived.Shelf.Strings.Runes
import Derived.Shelf.Strings.AsciiSet
import Derived.Shelf.Unicode.DecodeSlow
import Derived.Shelf.Unicode.DecodeAny
import Derived.Shelf.Unicode.DecodeLast
import Derived.Shelf.Slices.Turned
import Derived.Test.YtpagdhbmbnoddaaGreatDoorProg
import Derived.Test.YtpagdhbmbnoddaaGreatDoorZC0
set_option linter.unnecessarySimpa false
set_option linter.unusedVariables false
set_option linter.unusedSimpArgs false
set_option maxRecDepth 20000
namespace Go.Proofs.YtpagdhbmbnoddaaGreatDoor.Zz
def p77 : Plan := ⟨⟨[], [], [], [], [], []⟩, [(5, [0, 1, 2, 3, 4, 5, 6, 7, 8, 9, 10, 11, 12]), (9, [0, 1, 2, 3, 4, 5])], [], false⟩
def s77 : Stm :=
 .seq (.ops [⟨.alloc [(.int .i64 0), (.str []), (.int .i64 0)], some 4, none, false⟩,
 ⟨.mov (.c (.bool false)), some 5, none, true⟩])
 (.seq (.ops [⟨.mov (.t 0), some 9, none, true⟩,
 ⟨.mov (.t 1), some 10, none, true⟩,
 ⟨.qcall (.f 52) [(.t 9), (.t 10), (.f 54)], some 11, none, false⟩,
 ⟨.mov (.t 11), some 6, none, true⟩])
 (.seq (.ops [⟨.mov (.t 0), some 12, none, true⟩,
 ⟨.mov (.t 1), some 13, none, true⟩,
 ⟨.mov (.t 1), some 14, none, true⟩,
 ⟨.mov (.t 6), some 15, none, true⟩,
 ⟨.bin .add (.t 14) (.t 15), some 16, none, true⟩,
 ⟨.slice .str (.t 12) (some (.t 13)) (some (.t 16)) none, some 17, none, false⟩,
 ⟨.mov (.t 1), some 18, none, true⟩,
 ⟨.build [(.int .i64 0), (.str []), (.int .i64 0)] [(0, 1, (.c (.int .i64 2))), (1, 1, (.t 17)), (2, 1, (.t 18))], some 19, none, true⟩,
 ⟨.alloc [(.int .i64 0), (.str []), (.int .i64 0)], some 7, none, false⟩,
 ⟨.store 3 (.t 7) (.t 19), none, none, false⟩])
 (.seq (.seq (.ops [⟨.mov (.t 1), some 20, none, true⟩,
 ⟨.mov (.t 6), some 21, none, true⟩,
 ⟨.bin .add (.t 20) (.t 21), some 22, none, true⟩,
 ⟨.mov (.t 0), some 23, none, true⟩,
 ⟨.len .str (.t 23), some 24, none, false⟩,
 ⟨.bin .lss (.t 22) (.t 24), some 25, none, true⟩,
 ⟨.mov (.t 25), some 26, none, true⟩,
 ⟨.mov (.t 0), some 27, (some (26, true)), true⟩,
 ⟨.mov (.t 1), some 28, (some (26, true)), true⟩,
 ⟨.mov (.t 6), some 29, (some (26, true)), true⟩,
 ⟨.bin .add (.t 28) (.t 29), some 30, (some (26, true)), true⟩,
 ⟨.indexS (.t 27) (.t 30), some 31, (some (26, true)), true⟩,
 ⟨.bin .eql (.t 31) (.c (.int .u8 46)), some 32, (some (26, true)), true⟩,
 ⟨.pick (.t 26) (.t 32) (.c (.bool false)), some 33, none, true⟩])
 (.cond (.t 33)
 (.seq (.ops [⟨.mov (.t 0), some 34, none, true⟩,
 ⟨.mov (.t 1), some 35, none, true⟩,
 ⟨.mov (.t 6), some 36, none, true⟩,
 ⟨.bin .add (.t 35) (.t 36), some 37, none, true⟩,
 ⟨.bin .add (.t 37) (.c (.int .i64 1)), some 38, none, true⟩,
 ⟨.qcall (.f 52) [(.t 34), (.t 38), (.f 54)], some 39, none, false⟩,
 ⟨.mov (.t 39), some 8, none, true⟩])
 (.seq (.opsD 40 [⟨.mov (.t 0), some 40, none, true⟩,
 ⟨.mov (.t 1), some 41, none, true⟩,
 ⟨.mov (.t 1), some 42, none, true⟩,
 ⟨.mov (.t 6), some 43, none, true⟩,
 ⟨.bin .add (.t 42) (.t 43), some 44, none, true⟩,
 ⟨.bin .add (.t 44) (.c (.int .i64 1)), some 45, none, true⟩,
 ⟨.mov (.t 8), some 46, none, true⟩,
 ⟨.bin .add (.t 45) (.t 46), some 47, none, true⟩,
 ⟨.slice .str (.t 40) (some (.t 41)) (some (.t 47)) none, some 48, none, true⟩,
 ⟨.fieldAddr 0 (.t 7), some 49, none, true⟩,
 ⟨.store 1 (.t 49) (.c (.int .i64 3)), none, none, false⟩,
 ⟨.fieldAddr 1 (.t 7), some 50, none, true⟩,
 ⟨.store 1 (.t 50) (.t 48), none, none, false⟩])
 (.seq (.seq (.ops [⟨.mov (.t 8), some 51, none, true⟩,
 ⟨.bin .eql (.t 51) (.c (.int .i64 0)), some 52, none, true⟩,
 ⟨.mov (.t 52), some 53, none, true⟩,
 ⟨.mov (.t 6), some 54, (some (53, false)), true⟩,
 ⟨.mov (.t 8), some 55, (some (53, false)), true⟩,
 ⟨.bin .add (.t 54) (.t 55), some 56, (some (53, false)), true⟩,
 ⟨.bin .gtr (.t 56) (.c (.int .i64 15)), some 57, (some (53, false)), true⟩,
 ⟨.pick (.t 53) (.c (.bool true)) (.t 57), some 58, none, true⟩])
 (.cond (.t 58)
 (.seq (.ops [⟨.load (some 3) (.t 7), some 59, none, false⟩,
 ⟨.store 3 (.t 4) (.t 59), none, none, false⟩,
 ⟨.mov (.c (.bool false)), some 5, none, true⟩])
 (.ret))
 (.skip)))
 (.seq (.ops [⟨.load (some 3) (.t 7), some 60, none, false⟩,
 ⟨.store 3 (.t 4) (.t 60), none, none, false⟩,
 ⟨.mov (.c (.bool true)), some 5, none, true⟩])
 (.ret)))))
 (.skip)))
 (.seq (.opsD 5 [⟨.load (some 3) (.t 7), some 61, none, false⟩,
 ⟨.fieldAddr 1 (.t 7), some 62, none, true⟩,
 ⟨.load none (.t 62), some 63, none, false⟩,
 ⟨.qcall (.f 80) [(.t 63)], some 64, none, false⟩,
 ⟨.store 3 (.t 4) (.t 61), none, none, false⟩,
 ⟨.mov (.t 64), some 5, none, true⟩])
 (.ret)))))
theorem st77 : stmOf Tryz.prog 55 p77 = some (s77, [.cell 4 (some 3), .tmp 5], 65) := by kernel_rfl
def p79 : Plan := ⟨⟨[], [], [], [], [], []⟩, [], [], false⟩
def s79 : Stm :=
 .seq (.ops [⟨.mov (.c .nilsl), some 0, none, true⟩])
 (.seq (.ops [⟨.buildSlice 1 [(.str [])] 22 [(0, (.c (.str [58, 61]))), (1, (.c (.str [60, 61]))), (2, (.c (.str [62, 61]))), (3, (.c (.str [61, 61]))), (4, (.c (.str [33, 61]))), (5, (.c (.str [38, 38]))), (6, (.c (.str [124, 124]))), (7, (.c (.str [40]))), (8, (.c (.str [41]))), (9, (.c (.str [123]))), (10, (.c (.str [125]))), (11, (.c (.str [44]))), (12, (.c (.str [59]))), (13, (.c (.str [61]))), (14, (.c (.str [43]))), (15, (.c (.str [45]))), (16, (.c (.str [42]))), (17, (.c (.str [47]))), (18, (.c (.str [37]))), (19, (.c (.str [60]))), (20, (.c (.str [62]))), (21, (.c (.str [33])))] false, some 1, none, true⟩,
 ⟨.mov (.t 1), some 0, none, true⟩])
 (.ret))
theorem st79 : stmOf Tryz.prog 59 p79 = some (s79, [.tmp 0], 2) := by kernel_rfl
def p51 : Plan := ⟨⟨[], [], [], [], [], []⟩, [], [], false⟩
def s51 : Stm :=
 .seq (.ops [⟨.alloc [(.int .i64 0), (.str []), (.int .i64 0)], some 4, none, false⟩,
 ⟨.mov (.c (.bool false)), some 5, none, true⟩])
 (.seq (.seq (.ops [⟨.mov (.t 0), some 10, none, true⟩,
 ⟨.mov (.t 1), some 11, none, true⟩,
 ⟨.indexS (.t 10) (.t 11), some 12, none, true⟩,
 ⟨.mov (.t 12), some 6, none, true⟩])
 (.block 0 (.seq (.ops [⟨.mov (.t 6), some 14, none, true⟩,
 ⟨.qcall (.f 54) [(.t 14)], some 15, none, false⟩,
 ⟨.mov (.t 15), some 13, none, true⟩])
 (.cond (.t 13)
 (.seq (.ops [⟨.mov (.t 0), some 16, none, true⟩,
 ⟨.mov (.t 1), some 17, none, true⟩,
 ⟨.qcall (.f 55) [(.t 16), (.t 17)], some 18, none, false⟩,
 ⟨.extract (.t 18) 0, some 19, none, true⟩,
 ⟨.extract (.t 18) 1, some 20, none, true⟩,
 ⟨.store 3 (.t 4) (.t 19), none, none, false⟩,
 ⟨.mov (.t 20), some 5, none, true⟩])
 (.ret))
 (.seq (.ops [⟨.mov (.t 6), some 22, none, true⟩,
 ⟨.qcall (.f 56) [(.t 22)], some 23, none, false⟩,
 ⟨.mov (.t 23), some 21, none, true⟩])
 (.cond (.t 21)
 (.seq (.ops [⟨.mov (.t 0), some 24, none, true⟩,
 ⟨.mov (.t 1), some 25, none, true⟩,
 ⟨.mov (.t 1), some 26, none, true⟩,
 ⟨.mov (.t 0), some 27, none, true⟩,
 ⟨.mov (.t 1), some 28, none, true⟩,
 ⟨.qcall (.f 52) [(.t 27), (.t 28), (.f 57)], some 29, none, false⟩,
 ⟨.bin .add (.t 26) (.t 29), some 30, none, true⟩,
 ⟨.slice .str (.t 24) (some (.t 25)) (some (.t 30)) none, some 31, none, false⟩,
 ⟨.mov (.t 31), some 7, none, true⟩])
 (.seq (.seq (.ops [⟨.mov (.t 7), some 32, none, true⟩,
 ⟨.qcall (.f 58) [(.t 32)], some 33, none, false⟩])
 (.cond (.t 33)
 (.seq (.ops [⟨.mov (.t 7), some 34, none, true⟩,
 ⟨.mov (.t 1), some 35, none, true⟩,
 ⟨.build [(.int .i64 0), (.str []), (.int .i64 0)] [(0, 1, (.c (.int .i64 4))), (1, 1, (.t 34)), (2, 1, (.t 35))], some 36, none, true⟩,
 ⟨.store 3 (.t 4) (.t 36), none, none, false⟩,
 ⟨.mov (.c (.bool true)), some 5, none, true⟩])
 (.ret))
 (.skip)))
 (.seq (.ops [⟨.mov (.t 7), some 37, none, true⟩,
 ⟨.mov (.t 1), some 38, none, true⟩,
 ⟨.build [(.int .i64 0), (.str []), (.int .i64 0)] [(0, 1, (.c (.int .i64 1))), (1, 1, (.t 37)), (2, 1, (.t 38))], some 39, none, true⟩,
 ⟨.mov (.t 7), some 40, none, true⟩,
 ⟨.len .str (.t 40), some 41, none, false⟩,
 ⟨.bin .leq (.t 41) (.c (.int .i64 16)), some 42, none, true⟩,
 ⟨.store 3 (.t 4) (.t 39), none, none, false⟩,
 ⟨.mov (.t 42), some 5, none, true⟩])
 (.ret))))
 (.skip)))))))
 (.seq (.seq (.ops [⟨.qcall (.f 59) [], some 43, none, false⟩,
 ⟨.len .sl (.t 43), some 44, none, false⟩,
 ⟨.mov (.c (.int .i64 0)), some 45, none, true⟩])
 (.block 1 (.loop (.seq (.ops [⟨.bin .lss (.t 45) (.t 44), some 46, none, true⟩])
 (.seq (.cond (.t 46)
 (.skip)
 (.exit 1))
 (.seq (.block 2 (.seq (.ops [⟨.indexAddrS 1 (.t 43) (.t 45), some 47, none, false⟩,
 ⟨.load none (.t 47), some 48, none, false⟩,
 ⟨.mov (.t 48), some 9, none, true⟩])
 (.seq (.ops [⟨.mov (.t 0), some 49, none, true⟩,
 ⟨.mov (.t 1), some 50, none, true⟩,
 ⟨.slice .str (.t 49) (some (.t 50)) none none, some 51, none, false⟩,
 ⟨.mov (.t 9), some 52, none, true⟩,
 ⟨.qcall (.f 51) [(.t 51), (.t 52)], some 53, none, false⟩])
 (.cond (.t 53)
 (.seq (.ops [⟨.mov (.t 9), some 54, none, true⟩,
 ⟨.mov (.t 1), some 55, none, true⟩,
 ⟨.build [(.int .i64 0), (.str []), (.int .i64 0)] [(0, 1, (.c (.int .i64 5))), (1, 1, (.t 54)), (2, 1, (.t 55))], some 56, none, true⟩,
 ⟨.store 3 (.t 4) (.t 56), none, none, false⟩,
 ⟨.mov (.c (.bool true)), some 5, none, true⟩])
 (.ret))
 (.skip)))))
 (.ops [⟨.bin .add (.t 45) (.c (.int .i64 1)), some 57, none, true⟩,
 ⟨.mov (.t 57), some 45, none, true⟩])))))))
 (.seq (.ops [⟨.build [(.int .i64 0), (.str []), (.int .i64 0)] [], some 58, none, true⟩,
 ⟨.store 3 (.t 4) (.t 58), none, none, false⟩,
 ⟨.mov (.c (.bool false)), some 5, none, true⟩])
 (.ret))))
theorem st51 : stmOf Tryz.prog 31 p51 = some (s51, [.cell 4 (some 3), .tmp 5], 59) := by kernel_rfl
def p23 : Plan := ⟨⟨[], [], [], [], [], []⟩, [], [], false⟩
def s23 : Stm :=
 .seq (.ops [⟨.mov (.c .nilsl), some 2, none, true⟩,
 ⟨.mov (.c (.int .i64 0)), some 3, none, true⟩,
 ⟨.mov (.c (.int .i64 0)), some 4, none, true⟩])
 (.seq (.seq (.ops [⟨.mov (.t 0), some 9, none, true⟩,
 ⟨.len .str (.t 9), some 10, none, false⟩,
 ⟨.bin .gtr (.t 10) (.c (.int .i64 4096)), some 11, none, true⟩])
 (.cond (.t 11)
 (.seq (.ops [⟨.mov (.c .nilsl), some 2, none, true⟩,
 ⟨.mov (.c (.int .i64 4096)), some 3, none, true⟩,
 ⟨.mov (.c (.int .i64 3)), some 4, none, true⟩])
 (.ret))
 (.skip)))
 (.seq (.ops [⟨.mov (.c .nilsl), some 5, none, true⟩])
 (.seq (.ops [⟨.mov (.t 0), some 12, none, true⟩,
 ⟨.qcall (.f 30) [(.t 12), (.c (.int .i64 0))], some 13, none, false⟩,
 ⟨.mov (.t 13), some 6, none, true⟩])
 (.seq (.block 0 (.loop (.seq (.seq (.ops [⟨.mov (.t 6), some 14, none, true⟩,
 ⟨.mov (.t 0), some 15, none, true⟩,
 ⟨.len .str (.t 15), some 16, none, false⟩,
 ⟨.bin .lss (.t 14) (.t 16), some 17, none, true⟩])
 (.cond (.t 17)
 (.skip)
 (.exit 0)))
 (.block 1 (.seq (.ops [⟨.mov (.t 0), some 19, none, true⟩,
 ⟨.mov (.t 6), some 20, none, true⟩,
 ⟨.qcall (.f 31) [(.t 19), (.t 20)], some 21, none, false⟩,
 ⟨.mov (.t 21), some 18, none, true⟩,
 ⟨.extract (.t 18) 0, some 22, none, true⟩,
 ⟨.extract (.t 18) 1, some 23, none, true⟩,
 ⟨.alloc [(.int .i64 0), (.str []), (.int .i64 0)], some 7, none, false⟩,
 ⟨.store 3 (.t 7) (.t 22), none, none, false⟩,
 ⟨.mov (.t 23), some 8, none, true⟩])
 (.seq (.seq (.ops [⟨.mov (.t 8), some 24, none, true⟩,
 ⟨.un .not (.t 24), some 25, none, true⟩])
 (.cond (.t 25)
 (.seq (.ops [⟨.mov (.t 6), some 26, none, true⟩,
 ⟨.mov (.c .nilsl), some 2, none, true⟩,
 ⟨.mov (.t 26), some 3, none, true⟩,
 ⟨.mov (.c (.int .i64 90)), some 4, none, true⟩])
 (.ret))
 (.skip)))
 (.seq (.ops [⟨.mov (.t 5), some 27, none, true⟩,
 ⟨.load (some 3) (.t 7), some 28, none, false⟩,
 ⟨.buildSlice 3 [(.int .i64 0), (.str []), (.int .i64 0)] 1 [(0, (.t 28))] false, some 29, none, true⟩,
 ⟨.append 3 32 false (.t 27) (.t 29), some 30, none, false⟩,
 ⟨.mov (.t 30), some 5, none, true⟩])
 (.seq (.ops [⟨.mov (.t 6), some 31, none, true⟩,
 ⟨.fieldAddr 1 (.t 7), some 32, none, true⟩,
 ⟨.load none (.t 32), some 33, none, false⟩,
 ⟨.len .str (.t 33), some 34, none, false⟩,
 ⟨.bin .add (.t 31) (.t 34), some 35, none, true⟩,
 ⟨.mov (.t 35), some 6, none, true⟩])
 (.ops [⟨.mov (.t 6), some 36, none, true⟩,
 ⟨.mov (.t 0), some 37, none, true⟩,
 ⟨.mov (.t 6), some 38, none, true⟩,
 ⟨.qcall (.f 30) [(.t 37), (.t 38)], some 39, none, false⟩,
 ⟨.bin .add (.t 36) (.t 39), some 40, none, true⟩,
 ⟨.mov (.t 40), some 6, none, true⟩])))))))))
 (.seq (.ops [⟨.mov (.t 5), some 41, none, true⟩,
 ⟨.mov (.t 0), some 42, none, true⟩,
 ⟨.len .str (.t 42), some 43, none, false⟩,
 ⟨.build [(.int .i64 0), (.str []), (.int .i64 0)] [(0, 1, (.c (.int .i64 0))), (2, 1, (.t 43))], some 44, none, true⟩,
 ⟨.buildSlice 3 [(.int .i64 0), (.str []), (.int .i64 0)] 1 [(0, (.t 44))] false, some 45, none, true⟩,
 ⟨.append 3 32 false (.t 41) (.t 45), some 46, none, false⟩,
 ⟨.mov (.t 46), some 2, none, true⟩,
 ⟨.mov (.c (.int .i64 0)), some 3, none, true⟩,
 ⟨.mov (.c (.int .i64 0)), some 4, none, true⟩])
 (.ret))))))
theorem st23 : stmOf Tryz.prog 16 p23 = some (s23, [.tmp 2, .tmp 3, .tmp 4], 47) := by kernel_rfl
def numL (l : List UInt8) : Int × List UInt8 × Bool :=
  if decide (spn isDigit l < l.length) && ((l.getD (spn isDigit l) 0).toNat : Int) == 46 then
    (3, l.take (spn isDigit l + 1 + spn isDigit (l.drop (spn isDigit l + 1))), !(decide (spn isDigit (l.drop (spn isDigit l + 1)) = 0) || decide (15 < spn isDigit l + spn isDigit (l.drop (spn isDigit l + 1)))))
  else (2, l.take (spn isDigit l), wholeL (l.take (spn isDigit l)))
def tokD (k : Int) (s : List UInt8) (a : Int) : List D := [.int .i64 k, .str s, .int .i64 a]
set_option maxHeartbeats 1000000 in
theorem lexNumber_c (s : List UInt8) (a : Nat) (h1 : a ≤ s.length) (h2 : s.length ≤ 100000) : PCall Tryz.prog 55 [.str s, .int .i64 a] (.tuple [.agg (tokD (numL (s.drop a)).1 (numL (s.drop a)).2.1 a), .bool (numL (s.drop a)).2.2]) := by
  refine PCall.run tb50_ok st77 (by simp) fun E => ?_
  have g2 : (s.length ≤ 1000000) = True := by simp; omega
  have g3 : ((a : Int) ≤ 1000000) = True := by simp; omega
  have g0 : (0 ≤ (a : Int)) = True := by simp
  have hl := spn_le isDigit (s.drop a)
  rw [List.length_drop] at hl
  obtain ⟨n, hn⟩ : ∃ n, n = spn isDigit (s.drop a) := ⟨_, rfl⟩
  rw [← hn] at hl
  have w1 : IntKind.i64.wrap ((a : Int) + (n : Int)) = ((a + n : Nat) : Int) := wrap_add (by omega)
  have e0 : (s.drop a).getD n 0 = s.getD (a + n) 0 := by simp [List.getD]
  have e1 : (s.drop a).drop (n + 1) = s.drop (a + n + 1) := by rw [List.drop_drop]; rfl
  have e2 : (s.drop a).length = s.length - a := by simp
  have tt : ∀ k, (s.drop a).take (a + k - a) = (s.drop a).take k := fun k => by rw [Nat.add_sub_cancel_left]
  simp only [numL, ← hn, e0, e1, e2]
  by_cases c1 : a + n < s.length
  · have g4 : (((a + n : Nat) : Int) < (s.length : Int)) = True := by simp; omega
    have g4' : (n < s.length - a) = True := by simp; omega
    cases c2 : (((s.getD (a + n) 0).toNat : Int) == 46) with
    | true =>
      obtain ⟨m, hm⟩ : ∃ m, m = spn isDigit (s.drop (a + n + 1)) := ⟨_, rfl⟩
      have hl2 := spn_le isDigit (s.drop (a + n + 1))
      rw [List.length_drop, ← hm] at hl2
      have w2 : IntKind.i64.wrap (((a + n : Nat) : Int) + 1) = ((a + n + 1 : Nat) : Int) := wrap_succ (by omega)
      have w3 : IntKind.i64.wrap (((a + n + 1 : Nat) : Int) + (m : Int)) = ((a + n + 1 + m : Nat) : Int) := wrap_add (by omega)
      have w4 : IntKind.i64.wrap ((n : Int) + (m : Int)) = ((n + m : Nat) : Int) := wrap_add (by omega)
      have g5 : (((a + n + 1 : Nat) : Int) ≤ 1000000) = True := by simp; omega
      have g6 : (0 ≤ ((a + n + 1 : Nat) : Int)) = True := by simp; omega
      have t2 : (s.drop a).take (a + n + 1 + m - a) = (s.drop a).take (n + 1 + m) := by congr 1; omega
      simp (maxSteps := 1000000) only [s77, g0, g2, g3, g4, g4', g5, g6, ← hn, ← hm, w1, w2, w3, w4, t2, c2, q75, isByteP, decide_true, tb50_e, zz, zzN, zzF, zzD, zzM, cond_true, cond_false, seval]
      intro id
      refine ⟨by omega, fun id2 f1 f2 _ => ⟨by omega, by omega, ?_⟩⟩
      simp (maxSteps := 1000000) only [f1, f2, g4, ← hn, w1, c2, t2, tt, List.take_succ_cons, List.take_zero, tokD, tb50_e, zz, zzN, zzF, zzD, zzM, cond_true, cond_false, seval]
      (repeat' split) <;> simp_all <;> omega
    | false =>
      simp (maxSteps := 1000000) only [s77, g0, g2, g3, g4, g4', ← hn, w1, c2, q75, q85, tt, isByteP, decide_true, Bool.and_false, tb50_e, zz, zzN, zzF, zzD, zzM, cond_true, cond_false, seval]
      intro id
      refine ⟨by omega, fun id2 f1 f2 _ => ⟨by omega, ?_⟩⟩
      simp (maxSteps := 1000000) only [f1, f2, g4, ← hn, w1, c2, tt, List.take_succ_cons, List.take_zero, tokD, tb50_e, zz, zzN, zzF, zzD, zzM, cond_true, cond_false, seval]
  · have g4 : (((a + n : Nat) : Int) < (s.length : Int)) = False := by simp; omega
    have g4' : (n < s.length - a) = False := by simp; omega
    simp (maxSteps := 1000000) only [s77, g0, g2, g3, g4, g4', ← hn, w1, q75, q85, tt, isByteP, decide_false, Bool.false_and, tb50_e, zz, zzN, zzF, zzD, zzM, cond_true, cond_false, seval]
    intro id
    refine ⟨by omega, fun id2 f1 f2 _ => ?_⟩
    simp (maxSteps := 1000000) only [f1, f2, g4, ← hn, w1, tt, List.take_succ_cons, List.take_zero, tokD, tb50_e, zz, zzN, zzF, zzD, zzM, cond_true, cond_false, seval]
theorem lexNumber_c' (s : List UInt8) (a : Int) (h : 0 ≤ a ∧ a ≤ s.length ∧ s.length ≤ 100000) : PCall Tryz.prog 55 [.str s, .int .i64 a] (.tuple [.agg (tokD (numL (s.drop a.toNat)).1 (numL (s.drop a.toNat)).2.1 a), .bool (numL (s.drop a.toNat)).2.2]) := by
  have := lexNumber_c s a.toNat (by omega) h.2.2
  rwa [Int.toNat_of_nonneg h.1] at this
def q77 : List D → Option D
  | [.str s, .int .i64 a] => if 0 ≤ a ∧ a ≤ s.length ∧ s.length ≤ 100000 then some (.tuple [.agg (tokD (numL (s.drop a.toNat)).1 (numL (s.drop a.toNat)).2.1 a), .bool (numL (s.drop a.toNat)).2.2]) else none
  | _ => none
theorem q77_ok (args : List D) (d : D) (h : q77 args = some d) : PCall Tryz.prog 55 args d := by
  unfold q77 at h
  split at h
  · split at h
    · cases h; exact lexNumber_c' _ _ (by assumption)
    · cases h
  · cases h
def tb77 : Tab := tb50.addQ 55 q77
theorem tb77_q (g : FuncId) (args : List D) : tb77.q g args = if g = 55 then q77 args else tb50.q g args := rfl
theorem tb77_a : tb77.a = tb50.a := rfl
theorem tb77_c : tb77.c = tb50.c := rfl
theorem tb77_ok : tb77.ok Tryz.prog := Tab.addQ_ok tb50_ok q77_ok
theorem tb77_e : type_of% (And.intro (And.intro @tb77_q (And.intro @tb77_a @tb77_c)) @tb50_e) := (And.intro (And.intro @tb77_q (And.intro @tb77_a @tb77_c)) @tb50_e)
def signs : List (List UInt8) := [[58, 61], [60, 61], [62, 61], [61, 61], [33, 61], [38, 38], [124, 124], [40], [41], [123], [125], [44], [59], [61], [43], [45], [42], [47], [37], [60], [62], [33]]
theorem signs_c : PCall Tryz.prog 59 [] (.sl (encS signs)) := by
  refine PCall.run tb77_ok st79 (by simp) fun E => ?_
  simp only [s79, signs, encS, tb77_e, zz, zzN, zzF, zzD, zzM, cond_true, cond_false, seval]
def q79 : List D → Option D
  | [] => if True then some (.sl (encS signs)) else none
  | _ => none
theorem q79_ok (args : List D) (d : D) (h : q79 args = some d) : PCall Tryz.prog 59 args d := by
  unfold q79 at h
  split at h
  · split at h
    · cases h; exact signs_c
    · cases h
  · cases h
def tb79 : Tab := tb77.addQ 59 q79
theorem tb79_q (g : FuncId) (args : List D) : tb79.q g args = if g = 59 then q79 args else tb77.q g args := rfl
theorem tb79_a : tb79.a = tb77.a := rfl
theorem tb79_c : tb79.c = tb77.c := rfl
theorem tb79_ok : tb79.ok Tryz.prog := Tab.addQ_ok tb77_ok q79_ok
theorem tb79_e : type_of% (And.intro (And.intro @tb79_q (And.intro @tb79_a @tb79_c)) @tb77_e) := (And.intro (And.intro @tb79_q (And.intro @tb79_a @tb79_c)) @tb77_e)
def firstPre (l : List UInt8) : List (List UInt8) → Option (List UInt8)
  | [] => none
  | x :: xs => if pre l x = true then some x else firstPre l xs
def oneL (l : List UInt8) : Int × List UInt8 × Bool :=
  if isDigit ((l.getD 0 0).toNat : Int) = true then numL l
  else if isLetter ((l.getD 0 0).toNat : Int) = true then
    (if words.contains (l.take (spn nameP l)) = true then (4, l.take (spn nameP l), true) else (1, l.take (spn nameP l), decide (spn nameP l ≤ 16)))
  else match firstPre l signs with
    | some x => (5, x, true)
    | none => (0, [], false)
def oneD (l : List UInt8) (a : Int) : D := .tuple [.agg (tokD (oneL l).1 (oneL l).2.1 (if (oneL l).1 = 0 then 0 else a)), .bool (oneL l).2.2]
set_option maxHeartbeats 1000000 in
theorem one_c (s : List UInt8) (a : Nat) (h1 : a < s.length) (h2 : s.length ≤ 100000) : PCall Tryz.prog 31 [.str s, .int .i64 a] (oneD (s.drop a) a) := by
  refine PCall.run tb79_ok st51 (by simp) fun E => ?_
  have g2 : (s.length ≤ 100000) = True := by simp; omega
  have g2' : (s.length ≤ 1000000) = True := by simp; omega
  have g3 : ((a : Int) ≤ (s.length : Int)) = True := by simp; omega
  have g3' : ((a : Int) ≤ 1000000) = True := by simp; omega
  have g0 : (0 ≤ (a : Int)) = True := by simp
  have e0 : (s.drop a).getD 0 0 = s.getD a 0 := by simp [List.getD]
  have ts : (s.drop a).take (s.length - a) = s.drop a := List.take_of_length_le (by simp)
  simp only [oneD, oneL, e0]
  cases c1 : isDigit ((s.getD a 0).toNat : Int) with
  | true =>
    have k0 : ((numL (s.drop a)).1 = 0) = False := by simp only [numL]; split <;> simp
    simp (maxSteps := 1000000) only [s51, g0, g2, g3, c1, k0, q77, q63, tokD, List.take_succ_cons, List.take_zero, tb79_e, zz, zzN, zzF, zzD, zzM, cond_true, cond_false, seval]
    omega
  | false =>
    cases c2 : isLetter ((s.getD a 0).toNat : Int) with
    | true =>
      obtain ⟨m, hm⟩ : ∃ m, m = spn nameP (s.drop a) := ⟨_, rfl⟩
      have hl := spn_le nameP (s.drop a)
      rw [List.length_drop, ← hm] at hl
      have w1 : IntKind.i64.wrap ((a : Int) + (m : Int)) = ((a + m : Nat) : Int) := wrap_add (by omega)
      have e3 : a + m - a = m := by omega
      have lm : ((s.drop a).take m).length = m := by simp; omega
      have dm : decide ((m : Int) ≤ 16) = decide (m ≤ 16) := decide_eq_decide.2 (by omega)
      cases c3 : words.contains ((s.drop a).take m) <;>
        simp (maxSteps := 1000000) only [s51, g0, g2, g2', g3, g3', c1, c2, c3, ← hm, w1, e3, lm, dm, q62, q63, q75, q40, isByteP, tokD, List.take_succ_cons, List.take_zero, tb79_e, zz, zzN, zzF, zzD, zzM, cond_true, cond_false, seval]
      · omega
      · omega
    | false =>
      have ls : (encS signs).length = 22 := rfl
      simp (maxSteps := 1000000) only [s51, g0, g2, g3, c1, c2, ls, q62, q63, q79, tokD, List.take_succ_cons, List.take_zero, tb79_e, zz, zzN, zzF, zzD, zzM, cond_true, cond_false, seval]
      intro id
      refine ⟨by omega, ?_⟩
      refine run_loop (X := Nat) (fun i => [(0, .str s), (1, .int .i64 a), (4, .ptr id 1 0), (43, .sl (encS signs)), (44, .int .i64 22), (45, .int .i64 i)]) (fun _ => AHeap.emp.set id (.cells [.int .i64 0, .str [], .int .i64 0])) (fun i => 22 - i)
        (fun i => i ≤ 22 ∧ firstPre (s.drop a) (signs.drop i) = firstPre (s.drop a) signs) 0 (by simp) ?_ (AHeap.sub_refl _) ?_
      · simp only [zz, zzN, zzF, zzD, zzM, cond_true, cond_false, seval]
      · rintro i Q ⟨i1, i2⟩ hQ
        have wi : IntKind.i64.wrap ((i : Int) + 1) = ((i + 1 : Nat) : Int) := wrap_succ (by omega)
        by_cases c4 : i < 22
        · have g4 : ((i : Int) < 22) = True := by simp; omega
          have lsl : signs.length = 22 := rfl
          obtain ⟨x, hx⟩ : ∃ x, signs[i]? = some x := by rw [List.getElem?_eq_getElem (by omega)]; exact ⟨_, rfl⟩
          rw [drop_get hx] at i2
          simp only [firstPre] at i2
          cases c5 : pre (s.drop a) x with
          | true =>
            rw [if_pos c5] at i2
            simp (maxSteps := 1000000) only [g0, g3, g4, wi, ts, hx, c5, ← i2, askE_encS, q74, List.take_succ_cons, List.take_zero, tb79_e, zz, zzN, zzF, zzD, zzM, cond_true, cond_false, seval]
            omega
          | false =>
            rw [if_neg (by rw [c5]; exact Bool.false_ne_true)] at i2
            simp (maxSteps := 1000000) only [g0, g3, g4, wi, ts, hx, c5, askE_encS, q74, List.take_succ_cons, List.take_zero, tb79_e, zz, zzN, zzF, zzD, zzM, cond_true, cond_false, seval]
            refine ⟨by omega, ?_⟩
            refine hQ (i + 1) _ _ ⟨by omega, i2⟩ ?_ (AHeap.sub_refl _) (by omega)
            simp only [zz, zzN, zzF, zzD, zzM, cond_true, cond_false, seval]
        · have g4 : ((i : Int) < 22) = False := by simp; omega
          have e : signs.drop i = [] := List.drop_of_length_le (by simp [signs]; omega)
          rw [e, firstPre] at i2
          simp (maxSteps := 1000000) only [g4, ← i2, List.take_succ_cons, List.take_zero, tb79_e, zz, zzN, zzF, zzD, zzM, cond_true, cond_false, seval]
theorem one_c' (s : List UInt8) (a : Int) (h : 0 ≤ a ∧ a < s.length ∧ s.length ≤ 100000) : PCall Tryz.prog 31 [.str s, .int .i64 a] (oneD (s.drop a.toNat) a) := by
  have := one_c s a.toNat (by omega) h.2.2
  rwa [Int.toNat_of_nonneg h.1] at this
def q51 : List D → Option D
  | [.str s, .int .i64 a] => if 0 ≤ a ∧ a < s.length ∧ s.length ≤ 100000 then some (oneD (s.drop a.toNat) a) else none
  | _ => none
theorem q51_ok (args : List D) (d : D) (h : q51 args = some d) : PCall Tryz.prog 31 args d := by
  unfold q51 at h
  split at h
  · split at h
    · cases h; exact one_c' _ _ (by assumption)
    · cases h
  · cases h
def tb51 : Tab := tb79.addQ 31 q51
theorem tb51_q (g : FuncId) (args : List D) : tb51.q g args = if g = 31 then q51 args else tb79.q g args := rfl
theorem tb51_a : tb51.a = tb79.a := rfl
theorem tb51_c : tb51.c = tb79.c := rfl
theorem tb51_ok : tb51.ok Tryz.prog := Tab.addQ_ok tb79_ok q51_ok
theorem tb51_e : type_of% (And.intro (And.intro @tb51_q (And.intro @tb51_a @tb51_c)) @tb79_e) := (And.intro (And.intro @tb51_q (And.intro @tb51_a @tb51_c)) @tb79_e)
end Go.Proofs.YtpagdhbmbnoddaaGreatDoor.Zz
namespace Go.Proofs.YtpagdhbmbnoddaaGreatDoor.Zz
abbrev Tok := Int × List UInt8 × Int
def encT (l : List Tok) : List (List D) := l.map fun t => tokD t.1 t.2.1 t.2.2
theorem len_encT {l : List Tok} : (encT l).length = l.length := by simp [encT]
theorem encT_app {l : List Tok} {k : Int} {s : List UInt8} {a : Int} : encT l ++ [[.int .i64 k, .str s, .int .i64 a]] = encT (l ++ [(k, s, a)]) := by simp [encT, tokD]
theorem encT_nil : encT [] = [] := rfl
theorem encT_ne {l : List Tok} : l ≠ [] → encT l ≠ [] := by cases l <;> simp [encT]
def toksN : Nat → Nat → List UInt8 → List Tok → List Tok × Nat × Int
  | 0, _, _, out => (out, 0, 0)
  | n + 1, p, l, out =>
    if l = [] then (out ++ [(0, [], (p : Int))], 0, 0)
    else if (oneL l).2.2 = false then ([], p, 90)
    else toksN n (p + (oneL l).2.1.length + blankL (l.drop (oneL l).2.1.length)) (l.drop ((oneL l).2.1.length + blankL (l.drop (oneL l).2.1.length))) (out ++ [((oneL l).1, (oneL l).2.1, (p : Int))])
def tokens (s : List UInt8) : List Tok × Nat × Int := if 4096 < s.length then ([], 4096, 3) else toksN (s.length + 1) (blankL s) (s.drop (blankL s)) []
theorem firstPre_some : ∀ {l : List UInt8} {xs : List (List UInt8)} {x : List UInt8}, firstPre l xs = some x → x ∈ xs ∧ pre l x = true
  | l, [], x, h => by cases h
  | l, y :: xs, x, h => by
    simp only [firstPre] at h
    split at h
    · rename_i hp; cases h; exact ⟨by simp, hp⟩
    · have := firstPre_some h
      exact ⟨by simp [this.1], this.2⟩
theorem spn_pos {p : Int → Bool} {l : List UInt8} (hl : 0 < l.length) (h : p ((l.getD 0 0).toNat : Int) = true) : 0 < spn p l := by
  cases l with
  | nil => simp at hl
  | cons c l => rw [spn_cons, if_pos (by simpa using h)]; omega
theorem oneL_ok {l : List UInt8} (hl : 0 < l.length) (h : (oneL l).2.2 = true) : 1 ≤ (oneL l).2.1.length ∧ (oneL l).2.1.length ≤ l.length ∧ (oneL l).2.1 = l.take (oneL l).2.1.length ∧ (oneL l).1 ≠ 0 := by
  have tk : ∀ k : Nat, k ≤ l.length → 1 ≤ k → 1 ≤ (l.take k).length ∧ (l.take k).length ≤ l.length ∧ l.take k = l.take (l.take k).length := fun k h1 h2 => by
    have e : (l.take k).length = k := by simp; omega
    rw [e]; exact ⟨h2, h1, rfl⟩
  have t3 : ∀ {k : Nat} {x : Int}, k ≤ l.length → 1 ≤ k → x ≠ 0 → 1 ≤ (l.take k).length ∧ (l.take k).length ≤ l.length ∧ l.take k = l.take (l.take k).length ∧ x ≠ 0 := fun h1 h2 h3 => ⟨(tk _ h1 h2).1, (tk _ h1 h2).2.1, (tk _ h1 h2).2.2, h3⟩
  unfold oneL at h ⊢
  split
  · rename_i hd
    rw [if_pos hd] at h
    have h1 := spn_pos hl hd
    have h2 := spn_le isDigit l
    have h3 := spn_le isDigit (l.drop (spn isDigit l + 1))
    rw [List.length_drop] at h3
    unfold numL at h ⊢
    split
    · rename_i hc
      simp only [Bool.and_eq_true, decide_eq_true_eq] at hc
      exact t3 (by omega) (by omega) (by simp)
    · exact t3 h2 h1 (by simp)
  · rename_i hd
    rw [if_neg hd] at h
    split
    · rename_i ht
      rw [if_pos ht] at h
      have h1 := spn_pos (p := nameP) hl (by simp only [nameP, ht, Bool.true_or])
      have h2 := spn_le nameP l
      split
      · exact t3 h2 h1 (by simp)
      · exact t3 h2 h1 (by simp)
    · rename_i ht
      rw [if_neg ht] at h
      cases hf : firstPre l signs with
      | none => rw [hf] at h; cases h
      | some x =>
        obtain ⟨m, hp⟩ := firstPre_some hf
        simp only [pre, beq_iff_eq] at hp
        have hx : 1 ≤ x.length := by
          revert m; unfold signs; intro m
          simp only [List.mem_cons, List.not_mem_nil, or_false] at m
          rcases m with rfl | rfl | rfl | rfl | rfl | rfl | rfl | rfl | rfl | rfl | rfl | rfl | rfl | rfl | rfl | rfl | rfl | rfl | rfl | rfl | rfl | rfl <;> decide
        refine ⟨hx, ?_, hp.symm, by simp⟩
        have := congrArg List.length hp
        rw [List.length_take] at this
        simp only
        omega
set_option maxHeartbeats 1000000 in
theorem tokens_c (s : List UInt8) : PCall Tryz.prog 16 [.str s] (.tuple [.sl (encT (tokens s).1), .int .i64 (tokens s).2.1, .int .i64 (tokens s).2.2]) := by
  refine PCall.run tb51_ok st23 (by simp) fun E => ?_
  unfold tokens
  by_cases c0 : 4096 < s.length
  · have g1 : ((s.length : Int) > 4096) = True := by simp; omega
    simp only [c0, s23, g1, encT_nil, decide_true, tb51_e, zz, zzN, zzF, zzD, zzM, cond_true, cond_false, seval]
    trace_state
  · have h2 : s.length ≤ 1000000 := by omega
    have g1 : ((s.length : Int) > 4096) = False := by simp; omega
    have g2 : (s.length ≤ 1000000) = True := by simp; omega
    have g2' : (s.length ≤ 100000) = True := by simp; omega
    have g3 : (0 ≤ (s.length : Int)) = True := by simp
    simp only [c0, s23, g1, g2, g3, q50, decide_false, tb51_e, zz, zzN, zzF, zzD, zzM, cond_true, cond_false, seval]
    intro _
    generalize hR : toksN (s.length + 1) (blankL s) (s.drop (blankL s)) [] = R
    refine run_loop (X := Nat × List Tok × Nat × Nat) (fun x => [(0, .str s), (5, ownD x.2.2.1 x.2.1.length), (6, .int .i64 x.1)])
      (fun x => ownH .emp x.2.2.1 3 (encT x.2.1)) (fun x => x.2.2.2)
      (fun x => x.1 ≤ s.length ∧ x.2.1.length ≤ x.1 ∧ s.length < x.1 + x.2.2.2 ∧ toksN x.2.2.2 x.1 (s.drop x.1) x.2.1 = R) (blankL s, [], 0, s.length + 1) ⟨blankL_le _, by simp, by simp; omega, hR⟩ ?_ ?_ ?_
    · simp only [ownD, zz, zzN, zzF, zzD, zzM, cond_true, cond_false, seval]
    · exact AHeap.sub_refl _
    · rintro ⟨p, out, r, n⟩ Q ⟨i1, i2, i3, i4⟩ hQ
      simp only at i1 i2 i3 i4 hQ ⊢
      obtain ⟨n, rfl⟩ : ∃ n', n = n' + 1 := ⟨n - 1, by omega⟩
      simp only [toksN] at i4
      by_cases c1 : p < s.length
      · have hne : s.drop p ≠ [] := by simp; omega
        rw [if_neg hne] at i4
        have g4 : ((p : Int) < (s.length : Int)) = True := by simp; omega
        have g5 : (0 ≤ (p : Int)) = True := by simp
        cases c2 : (oneL (s.drop p)).2.2 with
        | false =>
          rw [if_pos c2] at i4
          simp only [g2', g4, g5, c2, oneD, tokD, q51, q50, ← i4, encT_nil, decide_true, tb51_e, zz, zzN, zzF, zzD, zzM, cond_true, cond_false, seval]
        | true =>
          rw [if_neg (by rw [c2]; exact Bool.noConfusion)] at i4
          obtain ⟨b1, b2, b3, b4⟩ := oneL_ok (by simp; omega) c2
          have lb := blankL_le ((s.drop p).drop (oneL (s.drop p)).2.1.length)
          have eb : s.drop (p + (oneL (s.drop p)).2.1.length) = (s.drop p).drop (oneL (s.drop p)).2.1.length := by rw [List.drop_drop]
          rcases hone : oneL (s.drop p) with ⟨kd, tx, ok⟩
          simp only [hone] at i4 c2 b1 b2 b3 b4 lb eb
          subst c2
          obtain ⟨bl, hbl⟩ : ∃ bl, bl = blankL ((s.drop p).drop tx.length) := ⟨_, rfl⟩
          rw [← hbl] at i4 lb
          simp only [List.length_drop] at lb b2
          have w1 : IntKind.i64.wrap ((p : Int) + (tx.length : Int)) = ((p + tx.length : Nat) : Int) := wrap_add (by omega)
          have w2 : IntKind.i64.wrap (((p + tx.length : Nat) : Int) + (bl : Int)) = ((p + tx.length + bl : Nat) : Int) := wrap_add (by omega)
          have g6 : (((p + tx.length : Nat) : Int) ≤ (s.length : Int)) = True := by simp; omega
          have g7 : (0 ≤ ((p + tx.length : Nat) : Int)) = True := by simp; omega
          have ed : s.drop (p + tx.length + bl) = (s.drop p).drop (tx.length + bl) := by rw [List.drop_drop, Nat.add_assoc]
          by_cases ho : out = []
          · subst ho
            simp only [g2, g2', g4, g5, b4, hone, encT_nil, ownD_zero, ownH_nil, oneD, tokD, q51, q50, List.take_succ_cons, List.take_zero, decide_true, tb51_e, zz, zzN, zzF, zzD, zzM, cond_true, cond_false, seval]
            intro _ id id2 f1 f2
            simp only [g2, g2', g4, g5, g6, g7, b4, hone, f1, f2, w1, w2, eb, ← hbl, encT_nil, ownD_zero, ownH_nil, oneD, tokD, q51, q50, List.take_succ_cons, List.take_zero, decide_true, tb51_e, zz, zzN, zzF, zzD, zzM, cond_true, cond_false, seval]
            intro _
            refine hQ (p + tx.length + bl, [(kd, tx, (p : Int))], id2, n) _ _ ⟨by simp only; omega, by simp only [List.length_singleton]; omega, by simp only; omega, by simp only [ed]; exact i4⟩ ?_ ?_ (Nat.lt_succ_self n)
            · simp only [ownD, zz, zzN, zzF, zzD, zzM, cond_true, cond_false, seval]
            · simp only [ownH, encT, tokD, zz, zzN, zzF, zzD, zzM, cond_true, cond_false, seval]
              exact AHeap.sub_X (by repeat' first | with_reducible exact AHeap.subX_refl | with_reducible exact AHeap.subX_emp | refine AHeap.subX_l (by simp [f1, f2]) ?_ | refine AHeap.subX_r (by simp [f1, f2]) ?_)
          · have ho2 := encT_ne ho
            have ho3 : out.length ≠ 0 := fun h => ho (List.length_eq_zero_iff.1 h)
            simp only [g2, g2', g4, g5, b4, hone, ownD_pos ho3, ownH_pos ho2, len_encT, oneD, tokD, q51, q50, List.take_succ_cons, List.take_zero, decide_true, tb51_e, zz, zzN, zzF, zzD, zzM, cond_true, cond_false, seval]
            intro _ id f1 f2
            have h3 : (∀ y ∈ [[D.int IntKind.i64 kd, D.str tx, D.int IntKind.i64 (p : Int)]], y.length = 3 ∧ y.all cellOk = true) := by simp [cellOk]
            have a1 : (encT out).length = out.length := len_encT
            simp only [g2, g2', g4, g5, g6, g7, b4, hone, f1, f2, w1, w2, eb, ← hbl, a1, oneD, tokD, q51, q50, List.take_succ_cons, List.take_zero, decide_true, tb51_e, zz, zzN, zzF, zzD, zzM, cond_true, cond_false, seval]
            refine ⟨by omega, fun _ => ?_⟩
            have ho5 : out.length + 1 ≠ 0 := by simp
            refine hQ (p + tx.length + bl, out ++ [(kd, tx, (p : Int))], r, n) _ _ ⟨by simp only; omega, by simp only [List.length_append, List.length_singleton]; omega, by simp only; omega, by simp only [ed]; exact i4⟩ ?_ ?_ (Nat.lt_succ_self n)
            · have e9 : out.length + 2 + 1 = out.length + 1 + 2 := by omega
              simp only [ownD_pos ho5, List.length_append, e9, zz, zzN, zzF, zzD, zzM, cond_true, cond_false, seval]
            · have e9 : out.length + 1 + 2 = out.length + 2 + 1 := by omega
              rw [ownH_pos (encT_ne (List.append_ne_nil_of_right_ne_nil out (List.cons_ne_nil _ _))), len_encT, ← encT_app, List.length_append, List.length_singleton, e9]
              exact AHeap.sub_X (by repeat' first | with_reducible exact AHeap.subX_refl | with_reducible exact AHeap.subX_emp | refine AHeap.subX_l (by simp [f1, f2]) ?_ | refine AHeap.subX_r (by simp [f1, f2]) ?_)
      · have g4 : ((p : Int) < (s.length : Int)) = False := by simp; omega
        have e : s.drop p = [] := List.drop_of_length_le (by omega)
        have hp : p = s.length := by omega
        subst hp
        rw [if_pos e] at i4
        by_cases ho : out = []
        · subst ho
          simp only [g4, ← i4, encT_nil, ownD_zero, ownH_nil, List.take_succ_cons, List.take_zero, decide_false, tb51_e, zz, zzN, zzF, zzD, zzM, cond_true, cond_false, seval]
          exact fun _ _ => rfl
        · have ho2 := encT_ne ho
          have ho3 : out.length ≠ 0 := fun h => ho (List.length_eq_zero_iff.1 h)
          simp only [g4, ← i4, ownD_pos ho3, ownH_pos ho2, len_encT, List.take_succ_cons, List.take_zero, decide_false, tb51_e, zz, zzN, zzF, zzD, zzM, cond_true, cond_false, seval]
          have a2 : (encT (out ++ [(0, [], (s.length : Int))])).take (out.length + 1) = encT (out ++ [(0, [], (s.length : Int))]) := List.take_of_length_le (by rw [len_encT]; simp)
          have a3 : out.length + 1 ≤ (encT (out ++ [(0, [], (s.length : Int))])).length := by rw [len_encT]; simp
          rw [encT_app, a2, if_pos a3]
          exact fun _ _ => ⟨by omega, rfl⟩
end Go.Proofs.YtpagdhbmbnoddaaGreatDoor.Zz
namespace Go.Proofs
open Go.Shelf
def Tryz.lays161_ren : Go.Shelf.Ren := ⟨fun | 161 => 89 | 231 => 109 | 227 => 110 | 233 => 111 | 235 => 112 | 228 => 134 | 197 => 135 | 151 => 136 | 260 => 149 | 152 => 150 | 137 => 159 | 119 => 160 | 224 => 147 | 225 => 146 | 217 => 145 | 266 => 157 | n => n, fun | 9 => 9 | 4 => 4 | 3 => 3 | 5 => 5 | 117 => 145 | 116 => 144 | 0 => 0 | 124 => 148 | 105 => 166 | 21 => 21 | 119 => 186 | 46 => 155 | 139 => 189 | 138 => 188 | n => n, fun | 3 => 7 | 4 => 8 | n => n⟩
theorem Tryz.lays161 : Go.Proofs.Lays.n161 Tryz.prog Tryz.lays161_ren := {
  mixed := by kernel_rfl
  f119 := Tryz.func160.trans (congrArg some (by kernel_rfl))
  f137 := Tryz.func159.trans (congrArg some (by kernel_rfl))
  f151 := Tryz.func136.trans (congrArg some (by kernel_rfl))
  f152 := Tryz.func150.trans (congrArg some (by kernel_rfl))
  f161 := Tryz.func89.trans (congrArg some (by kernel_rfl))
  f197 := Tryz.func135.trans (congrArg some (by kernel_rfl))
  f217 := Tryz.func145.trans (congrArg some (by kernel_rfl))
  f224 := Tryz.func147.trans (congrArg some (by kernel_rfl))
  f225 := Tryz.func146.trans (congrArg some (by kernel_rfl))
  f227 := Tryz.func110.trans (congrArg some (by kernel_rfl))
  f228 := Tryz.func134.trans (congrArg some (by kernel_rfl))
  f231 := Tryz.func109.trans (congrArg some (by kernel_rfl))
  f233 := Tryz.func111.trans (congrArg some (by kernel_rfl))
  f235 := Tryz.func112.trans (congrArg some (by kernel_rfl))
  f260 := Tryz.func149.trans (congrArg some (by kernel_rfl))
  f266 := Tryz.func157.trans (congrArg some (by kernel_rfl))
  t0 := Tryz.underlying0
  a0 := Tryz.isAgg0
  z0 := Tryz.sizeOf0
  v0 := Tryz.zeroValue0
  t3 := Tryz.underlying3
  a3 := Tryz.isAgg3
  z3 := Tryz.sizeOf3
  v3 := Tryz.zeroValue3
  t4 := Tryz.underlying4
  a4 := Tryz.isAgg4
  z4 := Tryz.sizeOf4
  v4 := Tryz.zeroValue4
  t5 := Tryz.underlying5
  a5 := Tryz.isAgg5
  z5 := Tryz.sizeOf5
  v5 := Tryz.zeroValue5
  t9 := Tryz.underlying9
  a9 := Tryz.isAgg9
  z9 := Tryz.sizeOf9
  v9 := Tryz.zeroValue9
  t21 := Tryz.underlying21
  a21 := Tryz.isAgg21
  z21 := Tryz.sizeOf21
  v21 := Tryz.zeroValue21
  t46 := Tryz.underlying155
  a46 := Tryz.isAgg155
  z46 := Tryz.sizeOf155
  v46 := Tryz.zeroValue155
  t105 := Tryz.underlying166
  a105 := Tryz.isAgg166
  z105 := Tryz.sizeOf166
  v105 := Tryz.zeroValue166
  t116 := Tryz.underlying144
  a116 := Tryz.isAgg144
  z116 := Tryz.sizeOf144
  t117 := Tryz.underlying145
  a117 := Tryz.isAgg145
  z117 := Tryz.sizeOf145
  v117 := Tryz.zeroValue145
  t119 := Tryz.underlying186
  a119 := Tryz.isAgg186
  z119 := Tryz.sizeOf186
  t124 := Tryz.underlying148
  a124 := Tryz.isAgg148
  z124 := Tryz.sizeOf148
  v124 := Tryz.zeroValue148
  t138 := Tryz.underlying188
  a138 := Tryz.isAgg188
  z138 := Tryz.sizeOf188
  v138 := Tryz.zeroValue188
  t139 := Tryz.underlying189
  a139 := Tryz.isAgg189
  z139 := Tryz.sizeOf189
  v139 := Tryz.zeroValue189
  g3 := by kernel_rfl
  g4 := by kernel_rfl }
open Go.RowKit in
theorem Tryz.strings_TrimLeft_one (s : ByteArray) (c : UInt8) (hc : c.toNat < 128) (w : World) :
    Calls Tryz.prog 89 #[.string s, .string ⟨#[c]⟩] w fun e w' => e = .returned (.string ⟨(Lib.trimLeftB s.data.toList c).toArray⟩) ∧ w' = w := Any.strings_TrimLeft_one Tryz.lays161 s c hc w
def Tryz.lays162_ren : Go.Shelf.Ren := ⟨fun | 162 => 90 | 232 => 113 | 227 => 110 | 234 => 114 | 236 => 115 | 228 => 134 | 271 => 137 | 151 => 136 | 120 => 151 | 197 => 135 | 152 => 150 | 260 => 149 | 137 => 159 | 119 => 160 | 224 => 147 | 225 => 146 | 217 => 145 | 266 => 157 | n => n, fun | 9 => 9 | 4 => 4 | 3 => 3 | 5 => 5 | 117 => 145 | 116 => 144 | 0 => 0 | 124 => 148 | 21 => 21 | 105 => 166 | 46 => 155 | 119 => 186 | 139 => 189 | 138 => 188 | n => n, fun | 3 => 7 | 4 => 8 | n => n⟩
theorem Tryz.lays162 : Go.Proofs.Lays.n162 Tryz.prog Tryz.lays162_ren := {
  mixed := by kernel_rfl
  f119 := Tryz.func160.trans (congrArg some (by kernel_rfl))
  f120 := Tryz.func151.trans (congrArg some (by kernel_rfl))
  f137 := Tryz.func159.trans (congrArg some (by kernel_rfl))
  f151 := Tryz.func136.trans (congrArg some (by kernel_rfl))
  f152 := Tryz.func150.trans (congrArg some (by kernel_rfl))
  f162 := Tryz.func90.trans (congrArg some (by kernel_rfl))
  f197 := Tryz.func135.trans (congrArg some (by kernel_rfl))
  f217 := Tryz.func145.trans (congrArg some (by kernel_rfl))
  f224 := Tryz.func147.trans (congrArg some (by kernel_rfl))
  f225 := Tryz.func146.trans (congrArg some (by kernel_rfl))
  f227 := Tryz.func110.trans (congrArg some (by kernel_rfl))
  f228 := Tryz.func134.trans (congrArg some (by kernel_rfl))
  f232 := Tryz.func113.trans (congrArg some (by kernel_rfl))
  f234 := Tryz.func114.trans (congrArg some (by kernel_rfl))
  f236 := Tryz.func115.trans (congrArg some (by kernel_rfl))
  f260 := Tryz.func149.trans (congrArg some (by kernel_rfl))
  f266 := Tryz.func157.trans (congrArg some (by kernel_rfl))
  f271 := Tryz.func137.trans (congrArg some (by kernel_rfl))
  t0 := Tryz.underlying0
  a0 := Tryz.isAgg0
  z0 := Tryz.sizeOf0
  v0 := Tryz.zeroValue0
  t3 := Tryz.underlying3
  a3 := Tryz.isAgg3
  z3 := Tryz.sizeOf3
  v3 := Tryz.zeroValue3
  t4 := Tryz.underlying4
  a4 := Tryz.isAgg4
  z4 := Tryz.sizeOf4
  v4 := Tryz.zeroValue4
  t5 := Tryz.underlying5
  a5 := Tryz.isAgg5
  z5 := Tryz.sizeOf5
  v5 := Tryz.zeroValue5
  t9 := Tryz.underlying9
  a9 := Tryz.isAgg9
  z9 := Tryz.sizeOf9
  v9 := Tryz.zeroValue9
  t21 := Tryz.underlying21
  a21 := Tryz.isAgg21
  z21 := Tryz.sizeOf21
  v21 := Tryz.zeroValue21
  t46 := Tryz.underlying155
  a46 := Tryz.isAgg155
  z46 := Tryz.sizeOf155
  v46 := Tryz.zeroValue155
  t105 := Tryz.underlying166
  a105 := Tryz.isAgg166
  z105 := Tryz.sizeOf166
  v105 := Tryz.zeroValue166
  t116 := Tryz.underlying144
  a116 := Tryz.isAgg144
  z116 := Tryz.sizeOf144
  t117 := Tryz.underlying145
  a117 := Tryz.isAgg145
  z117 := Tryz.sizeOf145
  v117 := Tryz.zeroValue145
  t119 := Tryz.underlying186
  a119 := Tryz.isAgg186
  z119 := Tryz.sizeOf186
  t124 := Tryz.underlying148
  a124 := Tryz.isAgg148
  z124 := Tryz.sizeOf148
  v124 := Tryz.zeroValue148
  t138 := Tryz.underlying188
  a138 := Tryz.isAgg188
  z138 := Tryz.sizeOf188
  v138 := Tryz.zeroValue188
  t139 := Tryz.underlying189
  a139 := Tryz.isAgg189
  z139 := Tryz.sizeOf189
  v139 := Tryz.zeroValue189
  g3 := by kernel_rfl
  g4 := by kernel_rfl }
open Go.RowKit in
theorem Tryz.strings_TrimRight_one (s : ByteArray) (c : UInt8) (hc : c.toNat < 128) (w : World) (hs : s.size ≤ 9223372036854775807) :
    Calls Tryz.prog 90 #[.string s, .string ⟨#[c]⟩] w fun e w' => e = .returned (.string ⟨(Lib.trimRightB s.data.toList c).toArray⟩) ∧ w' = w := Any.strings_TrimRight_one Tryz.lays162 s c hc w hs
def Tryz.laysC174_ren : Go.Shelf.Ren := ⟨fun | 174 => 102 | 247 => 129 | 245 => 130 | 287 => 140 | 279 => 141 | 280 => 142 | 281 => 143 | 282 => 144 | 321 => 152 | 322 => 153 | 316 => 154 | 171 => 156 | 205 => 155 | 243 => 161 | 246 => 68 | 283 => 91 | 284 => 92 | 285 => 93 | 286 => 94 | 129 => 117 | 317 => 116 | 318 => 118 | 319 => 119 | 320 => 120 | 337 => 138 | 338 => 139 | n => n, fun | 9 => 9 | 3 => 3 | 2 => 2 | 75 => 110 | 85 => 138 | 4 => 4 | 167 => 170 | 5 => 5 | 53 => 120 | 175 => 171 | 46 => 155 | 168 => 173 | 37 => 22 | 0 => 0 | 210 => 182 | 21 => 21 | 127 => 133 | 145 => 193 | 143 => 191 | 171 => 128 | 173 => 131 | 212 => 151 | 51 => 152 | 20 => 20 | 213 => 153 | 232 => 178 | 233 => 179 | 80 => 100 | n => n, fun | 15 => 5 | 16 => 6 | 17 => 1 | 18 => 3 | 19 => 4 | n => n⟩
theorem Tryz.laysC174 : Go.Proofs.LaysC.n174 Tryz.prog Tryz.laysC174_ren := {
  mixed := by kernel_rfl
  f129 := Tryz.func117.trans (congrArg some (by kernel_rfl))
  f171 := Tryz.func156.trans (congrArg some (by kernel_rfl))
  f174 := Tryz.func102.trans (congrArg some (by kernel_rfl))
  f205 := Tryz.func155.trans (congrArg some (by kernel_rfl))
  f243 := Tryz.func161.trans (congrArg some (by kernel_rfl))
  f245 := Tryz.func130.trans (congrArg some (by kernel_rfl))
  f246 := Tryz.func68.trans (congrArg some (by kernel_rfl))
  f247 := Tryz.func129.trans (congrArg some (by kernel_rfl))
  f279 := Tryz.func141.trans (congrArg some (by kernel_rfl))
  f280 := Tryz.func142.trans (congrArg some (by kernel_rfl))
  f281 := Tryz.func143.trans (congrArg some (by kernel_rfl))
  f282 := Tryz.func144.trans (congrArg some (by kernel_rfl))
  f283 := Tryz.func91.trans (congrArg some (by kernel_rfl))
  f284 := Tryz.func92.trans (congrArg some (by kernel_rfl))
  f285 := Tryz.func93.trans (congrArg some (by kernel_rfl))
  f286 := Tryz.func94.trans (congrArg some (by kernel_rfl))
  f287 := Tryz.func140.trans (congrArg some (by kernel_rfl))
  f316 := Tryz.func154.trans (congrArg some (by kernel_rfl))
  f317 := Tryz.func116.trans (congrArg some (by kernel_rfl))
  f318 := Tryz.func118.trans (congrArg some (by kernel_rfl))
  f319 := Tryz.func119.trans (congrArg some (by kernel_rfl))
  f320 := Tryz.func120.trans (congrArg some (by kernel_rfl))
  f321 := Tryz.func152.trans (congrArg some (by kernel_rfl))
  f322 := Tryz.func153.trans (congrArg some (by kernel_rfl))
  f337 := Tryz.func138.trans (congrArg some (by kernel_rfl))
  f338 := Tryz.func139.trans (congrArg some (by kernel_rfl))
  t0 := Tryz.underlying0
  a0 := Tryz.isAgg0
  z0 := Tryz.sizeOf0
  v0 := Tryz.zeroValue0
  t2 := Tryz.underlying2
  a2 := Tryz.isAgg2
  z2 := Tryz.sizeOf2
  v2 := Tryz.zeroValue2
  t3 := Tryz.underlying3
  a3 := Tryz.isAgg3
  z3 := Tryz.sizeOf3
  v3 := Tryz.zeroValue3
  t4 := Tryz.underlying4
  a4 := Tryz.isAgg4
  z4 := Tryz.sizeOf4
  v4 := Tryz.zeroValue4
  t5 := Tryz.underlying5
  a5 := Tryz.isAgg5
  z5 := Tryz.sizeOf5
  v5 := Tryz.zeroValue5
  t9 := Tryz.underlying9
  a9 := Tryz.isAgg9
  z9 := Tryz.sizeOf9
  v9 := Tryz.zeroValue9
  t20 := Tryz.underlying20
  a20 := Tryz.isAgg20
  z20 := Tryz.sizeOf20
  v20 := Tryz.zeroValue20
  t21 := Tryz.underlying21
  a21 := Tryz.isAgg21
  z21 := Tryz.sizeOf21
  v21 := Tryz.zeroValue21
  t37 := Tryz.underlying22
  a37 := Tryz.isAgg22
  z37 := Tryz.sizeOf22
  v37 := Tryz.zeroValue22
  t46 := Tryz.underlying155
  a46 := Tryz.isAgg155
  z46 := Tryz.sizeOf155
  v46 := Tryz.zeroValue155
  t51 := Tryz.underlying152
  a51 := Tryz.isAgg152
  z51 := Tryz.sizeOf152
  v51 := Tryz.zeroValue152
  t53 := Tryz.underlying120
  a53 := Tryz.isAgg120
  z53 := Tryz.sizeOf120
  v53 := Tryz.zeroValue120
  t75 := Tryz.underlying110
  a75 := Tryz.isAgg110
  z75 := Tryz.sizeOf110
  v75 := Tryz.zeroValue110
  t85 := Tryz.underlying138
  a85 := Tryz.isAgg138
  z85 := Tryz.sizeOf138
  v85 := Tryz.zeroValue138
  t127 := Tryz.underlying133
  a127 := Tryz.isAgg133
  z127 := Tryz.sizeOf133
  v127 := Tryz.zeroValue133
  t143 := Tryz.underlying191
  a143 := Tryz.isAgg191
  z143 := Tryz.sizeOf191
  v143 := Tryz.zeroValue191
  t145 := Tryz.underlying193
  a145 := Tryz.isAgg193
  z145 := Tryz.sizeOf193
  v145 := Tryz.zeroValue193
  t167 := Tryz.underlying170
  a167 := Tryz.isAgg170
  z167 := Tryz.sizeOf170
  v167 := Tryz.zeroValue170
  t168 := Tryz.underlying173
  a168 := Tryz.isAgg173
  z168 := Tryz.sizeOf173
  v168 := Tryz.zeroValue173
  t171 := Tryz.underlying128
  a171 := Tryz.isAgg128
  z171 := Tryz.sizeOf128
  v171 := Tryz.zeroValue128
  t173 := Tryz.underlying131
  a173 := Tryz.isAgg131
  z173 := Tryz.sizeOf131
  v173 := Tryz.zeroValue131
  t175 := Tryz.underlying171
  a175 := Tryz.isAgg171
  z175 := Tryz.sizeOf171
  v175 := Tryz.zeroValue171
  t210 := Tryz.underlying182
  a210 := Tryz.isAgg182
  z210 := Tryz.sizeOf182
  v210 := Tryz.zeroValue182
  t212 := Tryz.underlying151
  a212 := Tryz.isAgg151
  z212 := Tryz.sizeOf151
  v212 := Tryz.zeroValue151
  t213 := Tryz.underlying153
  a213 := Tryz.isAgg153
  z213 := Tryz.sizeOf153
  t232 := Tryz.underlying178
  a232 := Tryz.isAgg178
  z232 := Tryz.sizeOf178
  v232 := Tryz.zeroValue178
  t233 := Tryz.underlying179
  a233 := Tryz.isAgg179
  z233 := Tryz.sizeOf179
  v233 := Tryz.zeroValue179
  g15 := by kernel_rfl
  g16 := by kernel_rfl
  g17 := by kernel_rfl
  g18 := by kernel_rfl
  g19 := by kernel_rfl
  t80 := Tryz.underlying100
  a80 := Tryz.isAgg100
  z80 := Tryz.sizeOf100
  v80 := Tryz.zeroValue100
  i0 := by kernel_rfl
  i2 := by kernel_rfl
  i3 := by kernel_rfl
  i4 := by kernel_rfl
  i5 := by kernel_rfl
  i9 := by kernel_rfl
  i20 := by kernel_rfl
  i21 := by kernel_rfl
  i37 := by kernel_rfl
  i46 := by kernel_rfl
  i51 := by kernel_rfl
  i53 := by kernel_rfl
  i75 := by kernel_rfl
  i80 := by kernel_rfl
  i85 := by kernel_rfl
  i127 := by kernel_rfl
  i143 := by kernel_rfl
  i145 := by kernel_rfl
  i167 := by kernel_rfl
  i168 := by kernel_rfl
  i171 := by kernel_rfl
  i173 := by kernel_rfl
  i175 := by kernel_rfl
  i210 := by kernel_rfl
  i212 := by kernel_rfl
  i232 := by kernel_rfl
  i233 := by kernel_rfl
  m15 := by kernel_rfl
  m16 := by kernel_rfl
  m17 := by kernel_rfl
  m18 := by kernel_rfl
  m19 := by kernel_rfl
  c0 := by kernel_rfl
  c2 := by kernel_rfl
  c3 := by kernel_rfl
  c4 := by kernel_rfl
  c5 := by kernel_rfl
  c9 := by kernel_rfl
  c20 := by kernel_rfl
  c21 := by kernel_rfl
  c37 := by kernel_rfl
  c46 := by kernel_rfl
  c51 := by kernel_rfl
  c53 := by kernel_rfl
  c75 := by kernel_rfl
  c80 := by kernel_rfl
  c85 := by kernel_rfl
  c127 := by kernel_rfl
  c143 := by kernel_rfl
  c145 := by kernel_rfl
  c167 := by kernel_rfl
  c168 := by kernel_rfl
  c171 := by kernel_rfl
  c173 := by kernel_rfl
  c175 := by kernel_rfl
  c210 := by kernel_rfl
  c212 := by kernel_rfl
  c213 := by kernel_rfl
  c232 := by kernel_rfl
  c233 := by kernel_rfl }
open Go.RowKit in
theorem Tryz.strconv_ParseInt_10_at64_ok (s : ByteArray) (hmax : s.size ≤ 9223372036854775806) (v : Int) (h : Lib.parseIntB 64 s.data.toList = .ok v) (w : World) :
    Calls Tryz.prog 102 #[.string s, .int .i64 10, .int .i64 64] w fun e w' => e = .returned (.tuple #[.int .i64 v, .nilIface]) ∧ (w' = w ∨ ∃ t, w' = Lib.bytesWorld w 5 t) := Any.strconv_ParseInt_10_at64_ok Tryz.laysC174 s hmax v h w
def Tryz.lays145_ren : Go.Shelf.Ren := ⟨fun | 145 => 88 | 220 => 108 | 219 => 133 | 217 => 145 | 225 => 146 | 224 => 147 | 267 => 148 | 266 => 157 | 314 => 158 | n => n, fun | 9 => 9 | 4 => 4 | 59 => 125 | 3 => 3 | 5 => 5 | 46 => 155 | 146 => 184 | 51 => 152 | n => n, fun | 1 => 2 | n => n⟩
theorem Tryz.lays145 : Go.Proofs.Lays.n145 Tryz.prog Tryz.lays145_ren := {
  mixed := by kernel_rfl
  f145 := Tryz.func88.trans (congrArg some (by kernel_rfl))
  f217 := Tryz.func145.trans (congrArg some (by kernel_rfl))
  f219 := Tryz.func133.trans (congrArg some (by kernel_rfl))
  f220 := Tryz.func108.trans (congrArg some (by kernel_rfl))
  f224 := Tryz.func147.trans (congrArg some (by kernel_rfl))
  f225 := Tryz.func146.trans (congrArg some (by kernel_rfl))
  f266 := Tryz.func157.trans (congrArg some (by kernel_rfl))
  f267 := Tryz.func148.trans (congrArg some (by kernel_rfl))
  f314 := Tryz.func158.trans (congrArg some (by kernel_rfl))
  t3 := Tryz.underlying3
  a3 := Tryz.isAgg3
  z3 := Tryz.sizeOf3
  v3 := Tryz.zeroValue3
  t4 := Tryz.underlying4
  a4 := Tryz.isAgg4
  z4 := Tryz.sizeOf4
  v4 := Tryz.zeroValue4
  t5 := Tryz.underlying5
  a5 := Tryz.isAgg5
  z5 := Tryz.sizeOf5
  v5 := Tryz.zeroValue5
  t9 := Tryz.underlying9
  a9 := Tryz.isAgg9
  z9 := Tryz.sizeOf9
  v9 := Tryz.zeroValue9
  t46 := Tryz.underlying155
  a46 := Tryz.isAgg155
  z46 := Tryz.sizeOf155
  v46 := Tryz.zeroValue155
  t51 := Tryz.underlying152
  a51 := Tryz.isAgg152
  z51 := Tryz.sizeOf152
  v51 := Tryz.zeroValue152
  t59 := Tryz.underlying125
  a59 := Tryz.isAgg125
  z59 := Tryz.sizeOf125
  v59 := Tryz.zeroValue125
  t146 := Tryz.underlying184
  a146 := Tryz.isAgg184
  z146 := Tryz.sizeOf184
  v146 := Tryz.zeroValue184
  g1 := by kernel_rfl }
open Go.RowKit Go.Lib in
theorem Tryz.strings_Cut (s sep : ByteArray) (m : Int) (w : World) (hs : s.size < 4294967281) (hm : w.cell? ⟨2, 0, none⟩ = some (.int .i64 m)) :
    Calls Tryz.prog 88 #[.string s, .string sep] w fun e w' => e = .returned (.tuple #[.string ⟨(Lib.cut s.data.toList sep.data.toList).1.toArray⟩, .string ⟨(Lib.cut s.data.toList sep.data.toList).2.1.toArray⟩, .bool (Lib.cut s.data.toList sep.data.toList).2.2]) ∧ ∃ n, w' = w.drewN n := Any.strings_Cut Tryz.lays145 s sep m w hs hm
end Go.Proofs
namespace Go.Proofs.YtpagdhbmbnoddaaGreatDoor.Zz
open Go.RowKit
theorem maxLen_eq : Globs.ints (Tryz.prog.globalNamed "internal/bytealg.MaxLen").get! = some .i64 := by kernel_rfl
theorem len_dropWhile (p : UInt8 → Bool) : ∀ l : List UInt8, (l.dropWhile p).length ≤ l.length
  | [] => by simp
  | x :: l => by
    rw [List.dropWhile_cons]
    split
    · have := len_dropWhile p l; simp; omega
    · simp
theorem trimL_c (s : List UInt8) : PCall Tryz.prog 89 [.str s, .str [48]] (.str (Lib.trimLeftB s 48)) := by
  refine PCall.of_below (by kernel_rfl) fun κ w vs hg hr him => ?_
  obtain ⟨vl⟩ := vs
  cases hr with
  | cons r1 hr =>
    cases hr with
    | cons r2 hr =>
      cases hr
      obtain ⟨e1, hl⟩ := rep_str_inv r1
      rw [e1, (rep_str_inv r2).1]
      refine (Tryz.strings_TrimLeft_one ⟨s.toArray⟩ 48 (by decide) w).mono fun e w' ⟨e1, e2⟩ => ⟨_, e1, fun _ _ => .str (Lib.trimLeftB s 48) ?_, by rw [e2]; exact Below.refl _ _⟩
      have : (Lib.trimLeftB s 48).length ≤ s.length := by unfold Lib.trimLeftB; exact len_dropWhile _ _
      omega
theorem trimR_c (s : List UInt8) : PCall Tryz.prog 90 [.str s, .str [48]] (.str (Lib.trimRightB s 48)) := by
  refine PCall.of_below (by kernel_rfl) fun κ w vs hg hr him => ?_
  obtain ⟨vl⟩ := vs
  cases hr with
  | cons r1 hr =>
    cases hr with
    | cons r2 hr =>
      cases hr
      obtain ⟨e1, hl⟩ := rep_str_inv r1
      rw [e1, (rep_str_inv r2).1]
      refine (Tryz.strings_TrimRight_one ⟨s.toArray⟩ 48 (by decide) w (by simpa [ByteArray.size] using hl)).mono fun e w' ⟨e1, e2⟩ => ⟨_, e1, fun _ _ => .str (Lib.trimRightB s 48) ?_, by rw [e2]; exact Below.refl _ _⟩
      have : (Lib.trimRightB s 48).length ≤ s.length := by
        unfold Lib.trimRightB
        have := len_dropWhile (fun b => b == 48) s.reverse
        simp at this ⊢
        omega
      omega
theorem cut_c (s sep : List UInt8) (hs : s.length < 4294967281) : PCall Tryz.prog 88 [.str s, .str sep] (.tuple [.str (Lib.cut s sep).1, .str (Lib.cut s sep).2.1, .bool (Lib.cut s sep).2.2]) := by
  refine PCall.of_below (by kernel_rfl) fun κ w vs hg hr him => ?_
  obtain ⟨vl⟩ := vs
  cases hr with
  | cons r1 hr =>
    cases hr with
    | cons r2 hr =>
      cases hr
      rw [(rep_str_inv r1).1, (rep_str_inv r2).1]
      obtain ⟨_, m, hm⟩ := hg.ints _ _ maxLen_eq
      refine (Tryz.strings_Cut ⟨s.toArray⟩ ⟨sep.toArray⟩ m w (by simpa [ByteArray.size] using hs) hm).mono fun e w' ⟨e1, n, e2⟩ => ⟨_, e1, fun _ _ => .tuple rfl fun i d hd => ?_, by rw [e2]; exact below_drewN w n⟩
      have h1 : (Lib.cut s sep).1.length ≤ 9223372036854775807 := by
        unfold Lib.cut
        split <;> simp <;> omega
      have h2 : (Lib.cut s sep).2.1.length ≤ 9223372036854775807 := by
        unfold Lib.cut
        split <;> simp <;> omega
      match i, hd with
      | 0, hd => cases hd; exact .str _ h1
      | 1, hd => cases hd; exact .str _ h2
      | 2, hd => cases hd; exact .bool _
end Go.Proofs.YtpagdhbmbnoddaaGreatDoor.Zz
