/- Contracts: statements. -/
import Derived.Test.YtpagdhbmbnoddaaGreatDoorZC9
set_option linter.unnecessarySimpa false
set_option linter.unusedVariables false
set_option linter.unusedSimpArgs false
set_option maxRecDepth 20000
namespace Go.Proofs.YtpagdhbmbnoddaaGreatDoor.Zz
noncomputable section
def p98c : Plan := ⟨⟨[(17, 6)], [(12, 1), (14, 2), (16, 10), (17, 5), (21, 4), (24, 1), (25, 5), (25, 11), (27, 1), (28, 5), (29, 9), (31, 1), (32, 5), (34, 1), (35, 6), (36, 5), (3, 8), (4, 1), (5, 14), (6, 5), (8, 5), (9, 3), (9, 7)], [(29, 3)], [((25, 5), [(.t 3)]), ((21, 4), [(.t 5)]), ((25, 5), [(.t 3), (.t 123)]), ((9, 3), [(.t 8)])], [((25, 10), (.t 3)), ((21, 1), (.t 5)), ((25, 8), (.t 3)), ((25, 10), (.t 123)), ((9, 5), (.t 8))], []⟩, [(21, [0, 1, 2, 3, 4, 5, 6, 7, 8]), (25, [0, 1, 2, 3, 4, 6, 7, 8, 9, 10, 5, 11, 12, 13, 14]), (29, [0, 1, 2, 3, 4, 5, 6, 7, 8, 9, 10, 11, 12]), (9, [0, 1, 2, 4, 5, 3, 6, 7])], [], false⟩
def s98c : Stm :=
 .seq (.ops [⟨.box (.t 1), some 3, none, false⟩,
 ⟨.alloc [(.int .i64 0), (.int .i64 0), (.str []), (.int .i64 0), .nilsl], some 4, none, false⟩])
 (.seq (.ops [⟨.load (some 5) (.t 3), some 9, none, false⟩,
 ⟨.alloc [(.int .i64 0), (.int .i64 0), (.str []), (.int .i64 0), .nilsl], some 5, none, false⟩,
 ⟨.store 5 (.t 5) (.t 9), none, none, false⟩])
 (.seq (.seq (.ops [⟨.fieldAddr 0 (.t 3), some 10, none, true⟩,
 ⟨.load none (.t 10), some 11, none, false⟩])
 (.block 0 (.seq (.ops [⟨.bin .eql (.t 11) (.c (.int .i64 14)), some 65, none, true⟩,
 ⟨.mov (.t 65), some 64, none, true⟩])
 (.cond (.t 64)
 (.ops [⟨.load (some 5) (.t 3), some 66, none, false⟩,
 ⟨.call (.f 73) [(.t 66), (.c (.int .i64 0))], some 67, none, false⟩])
 (.seq (.ops [⟨.bin .eql (.t 11) (.c (.int .i64 6)), some 69, none, true⟩,
 ⟨.mov (.t 69), some 68, none, true⟩])
 (.cond (.t 68)
 (.seq (.ops [⟨.mov (.t 0), some 70, none, true⟩,
 ⟨.load (some 5) (.t 3), some 71, none, false⟩,
 ⟨.call (.f 75) [(.t 70), (.t 71)], some 72, none, false⟩,
 ⟨.store 5 (.t 4) (.t 72), none, none, false⟩])
 (.ret))
 (.seq (.ops [⟨.bin .eql (.t 11) (.c (.int .i64 9)), some 74, none, true⟩,
 ⟨.mov (.t 74), some 73, none, true⟩])
 (.cond (.t 73)
 (.seq (.ops [⟨.fieldAddr 4 (.t 3), some 75, none, true⟩,
 ⟨.load none (.t 75), some 76, none, false⟩,
 ⟨.len .sl (.t 76), some 77, none, false⟩,
 ⟨.bin .eql (.t 77) (.c (.int .i64 2)), some 78, none, true⟩,
 ⟨.mov (.t 78), some 79, none, true⟩,
 ⟨.fieldAddr 4 (.t 3), some 80, (some (79, false)), true⟩,
 ⟨.load none (.t 80), some 81, (some (79, false)), false⟩,
 ⟨.len .sl (.t 81), some 82, (some (79, false)), false⟩,
 ⟨.bin .eql (.t 82) (.c (.int .i64 3)), some 83, (some (79, false)), true⟩,
 ⟨.pick (.t 79) (.c (.bool true)) (.t 83), some 84, none, true⟩,
 ⟨.call (.f 49) [(.t 84), (.c (.int .i64 125))], some 85, none, false⟩])
 (.seq (.ops [⟨.mov (.t 0), some 86, none, true⟩,
 ⟨.fieldAddr 4 (.t 3), some 87, none, true⟩,
 ⟨.load none (.t 87), some 88, none, false⟩,
 ⟨.indexAddrS 5 (.t 88) (.c (.int .i64 0)), some 89, none, false⟩,
 ⟨.load (some 5) (.t 89), some 90, none, false⟩,
 ⟨.call (.f 74) [(.t 86), (.t 90), (.c (.int .i64 3))], some 91, none, false⟩,
 ⟨.buildSlice 5 [(.int .i64 0), (.int .i64 0), (.str []), (.int .i64 0), .nilsl] 1 [(0, (.t 91))] true, some 92, none, false⟩,
 ⟨.fieldAddr 4 (.t 5), some 93, none, true⟩,
 ⟨.store 1 (.t 93) (.t 92), none, none, false⟩])
 (.seq (.ops [⟨.fieldAddr 4 (.t 3), some 94, none, true⟩,
 ⟨.load none (.t 94), some 95, none, false⟩,
 ⟨.slice (.sl 5) (.t 95) (some (.c (.int .i64 1))) none none, some 96, none, false⟩,
 ⟨.len .sl (.t 96), some 97, none, false⟩,
 ⟨.mov (.c (.int .i64 0)), some 98, none, true⟩])
 (.block 1 (.loop (.seq (.ops [⟨.bin .lss (.t 98) (.t 97), some 99, none, true⟩])
 (.seq (.cond (.t 99)
 (.skip)
 (.exit 1))
 (.seq (.block 2 (.seq (.ops [⟨.indexAddrS 5 (.t 96) (.t 98), some 100, none, false⟩,
 ⟨.load (some 5) (.t 100), some 101, none, false⟩,
 ⟨.alloc [(.int .i64 0), (.int .i64 0), (.str []), (.int .i64 0), .nilsl], some 7, none, false⟩,
 ⟨.store 5 (.t 7) (.t 101), none, none, false⟩])
 (.opsD 102 [⟨.fieldAddr 4 (.t 5), some 102, none, true⟩,
 ⟨.loadOf none (.t 102) (.t 5), some 103, none, false⟩,
 ⟨.mov (.t 0), some 104, none, true⟩,
 ⟨.load (some 5) (.t 7), some 105, none, false⟩,
 ⟨.callNe (.f 75) [(.t 104), (.t 105)] [(.t 5)], some 106, none, false⟩,
 ⟨.buildSlice 5 [(.int .i64 0), (.int .i64 0), (.str []), (.int .i64 0), .nilsl] 1 [(0, (.t 106))] false, some 107, none, true⟩,
 ⟨.append 5 64 false (.t 103) (.t 107), some 108, none, false⟩,
 ⟨.fieldAddr 4 (.t 5), some 109, none, true⟩,
 ⟨.store 1 (.t 109) (.t 108), none, none, false⟩])))
 (.ops [⟨.bin .add (.t 98) (.c (.int .i64 1)), some 110, none, true⟩,
 ⟨.mov (.t 110), some 98, none, true⟩])))))))))
 (.seq (.ops [⟨.bin .eql (.t 11) (.c (.int .i64 10)), some 112, none, true⟩,
 ⟨.mov (.t 112), some 111, none, true⟩])
 (.cond (.t 111)
 (.seq (.ops [⟨.load (some 5) (.t 3), some 113, none, false⟩,
 ⟨.call (.f 73) [(.t 113), (.c (.int .i64 2))], some 114, none, false⟩])
 (.opsD 115 [⟨.mov (.t 0), some 115, none, true⟩,
 ⟨.fieldAddr 4 (.t 3), some 116, none, true⟩,
 ⟨.load none (.t 116), some 117, none, false⟩,
 ⟨.indexAddrS 5 (.t 117) (.c (.int .i64 0)), some 118, none, true⟩,
 ⟨.load (some 5) (.t 118), some 119, none, false⟩,
 ⟨.mov (.t 0), some 121, none, true⟩,
 ⟨.fieldAddr 4 (.t 3), some 122, none, true⟩,
 ⟨.loadOf none (.t 122) (.t 3), some 123, none, false⟩,
 ⟨.indexAddrS 5 (.t 123) (.c (.int .i64 1)), some 124, none, true⟩,
 ⟨.loadOf (some 5) (.t 124) (.t 3), some 125, none, false⟩,
 ⟨.callNe (.f 74) [(.t 115), (.t 119), (.c (.int .i64 3))] [(.t 3)], some 120, none, false⟩,
 ⟨.call (.f 75) [(.t 121), (.t 125)], some 126, none, false⟩,
 ⟨.buildSlice 5 [(.int .i64 0), (.int .i64 0), (.str []), (.int .i64 0), .nilsl] 2 [(0, (.t 120)), (1, (.t 126))] false, some 127, none, true⟩,
 ⟨.fieldAddr 4 (.t 5), some 128, none, true⟩,
 ⟨.store 1 (.t 128) (.t 127), none, none, false⟩]))
 (.seq (.ops [⟨.bin .eql (.t 11) (.c (.int .i64 11)), some 130, none, true⟩,
 ⟨.mov (.t 130), some 129, none, true⟩])
 (.cond (.t 129)
 (.seq (.ops [⟨.load (some 5) (.t 3), some 131, none, false⟩,
 ⟨.call (.f 73) [(.t 131), (.c (.int .i64 1))], some 132, none, false⟩])
 (.seq (.ops [⟨.mov (.t 0), some 133, none, true⟩,
 ⟨.nilCheck (.t 133), some 134, none, true⟩,
 ⟨.fieldAddr 7 (.t 134), some 135, none, true⟩,
 ⟨.load none (.t 135), some 136, none, false⟩,
 ⟨.bin .neq (.t 136) (.c (.int .i64 0)), some 137, none, true⟩,
 ⟨.call (.f 49) [(.t 137), (.c (.int .i64 124))], some 138, none, false⟩])
 (.opsD 139 [⟨.mov (.t 0), some 139, none, true⟩,
 ⟨.fieldAddr 4 (.t 3), some 140, none, true⟩,
 ⟨.load none (.t 140), some 141, none, false⟩,
 ⟨.indexAddrS 5 (.t 141) (.c (.int .i64 0)), some 142, none, false⟩,
 ⟨.load (some 5) (.t 142), some 143, none, false⟩,
 ⟨.mov (.t 0), some 144, none, true⟩,
 ⟨.nilCheck (.t 144), some 145, none, true⟩,
 ⟨.fieldAddr 7 (.t 145), some 146, none, true⟩,
 ⟨.load none (.t 146), some 147, none, false⟩,
 ⟨.call (.f 74) [(.t 139), (.t 143), (.t 147)], some 148, none, false⟩,
 ⟨.buildSlice 5 [(.int .i64 0), (.int .i64 0), (.str []), (.int .i64 0), .nilsl] 1 [(0, (.t 148))] false, some 149, none, true⟩,
 ⟨.fieldAddr 4 (.t 5), some 150, none, true⟩,
 ⟨.store 1 (.t 150) (.t 149), none, none, false⟩])))
 (.seq (.ops [⟨.bin .eql (.t 11) (.c (.int .i64 12)), some 152, none, true⟩,
 ⟨.mov (.t 152), some 151, none, true⟩])
 (.cond (.t 151)
 (.seq (.ops [⟨.load (some 5) (.t 3), some 153, none, false⟩,
 ⟨.call (.f 73) [(.t 153), (.c (.int .i64 1))], some 154, none, false⟩])
 (.ops [⟨.mov (.t 0), some 155, none, true⟩,
 ⟨.fieldAddr 4 (.t 3), some 156, none, true⟩,
 ⟨.load none (.t 156), some 157, none, false⟩,
 ⟨.indexAddrS 5 (.t 157) (.c (.int .i64 0)), some 158, none, false⟩,
 ⟨.load (some 5) (.t 158), some 159, none, false⟩,
 ⟨.call (.f 74) [(.t 155), (.t 159), (.c (.int .i64 3))], some 160, none, false⟩,
 ⟨.buildSlice 5 [(.int .i64 0), (.int .i64 0), (.str []), (.int .i64 0), .nilsl] 1 [(0, (.t 160))] false, some 161, none, true⟩,
 ⟨.fieldAddr 4 (.t 5), some 162, none, true⟩,
 ⟨.store 1 (.t 162) (.t 161), none, none, false⟩]))
 (.seq (.ops [⟨.bin .eql (.t 11) (.c (.int .i64 13)), some 164, none, true⟩,
 ⟨.mov (.t 164), some 163, none, true⟩])
 (.cond (.t 163)
 (.seq (.ops [⟨.load (some 5) (.t 3), some 165, none, false⟩,
 ⟨.call (.f 73) [(.t 165), (.c (.int .i64 1))], some 166, none, false⟩])
 (.seq (.ops [⟨.fieldAddr 4 (.t 3), some 167, none, true⟩,
 ⟨.load none (.t 167), some 168, none, false⟩,
 ⟨.indexAddrS 5 (.t 168) (.c (.int .i64 0)), some 169, none, false⟩,
 ⟨.fieldAddr 0 (.t 169), some 170, none, true⟩,
 ⟨.load none (.t 170), some 171, none, false⟩,
 ⟨.bin .eql (.t 171) (.c (.int .i64 24)), some 172, none, true⟩,
 ⟨.call (.f 49) [(.t 172), (.c (.int .i64 125))], some 173, none, false⟩])
 (.ops [⟨.mov (.t 0), some 174, none, true⟩,
 ⟨.fieldAddr 4 (.t 3), some 175, none, true⟩,
 ⟨.load none (.t 175), some 176, none, false⟩,
 ⟨.indexAddrS 5 (.t 176) (.c (.int .i64 0)), some 177, none, false⟩,
 ⟨.load (some 5) (.t 177), some 178, none, false⟩,
 ⟨.call (.f 97) [(.t 174), (.t 178)], some 179, none, false⟩,
 ⟨.buildSlice 5 [(.int .i64 0), (.int .i64 0), (.str []), (.int .i64 0), .nilsl] 1 [(0, (.t 179))] false, some 180, none, true⟩,
 ⟨.fieldAddr 4 (.t 5), some 181, none, true⟩,
 ⟨.store 1 (.t 181) (.t 180), none, none, false⟩])))
 (.seq (.ops [⟨.fieldAddr 0 (.t 3), some 12, none, true⟩,
 ⟨.load none (.t 12), some 13, none, false⟩,
 ⟨.bin .eql (.t 13) (.c (.int .i64 7)), some 14, none, true⟩,
 ⟨.mov (.t 14), some 15, none, true⟩,
 ⟨.fieldAddr 0 (.t 3), some 16, (some (15, false)), true⟩,
 ⟨.load none (.t 16), some 17, (some (15, false)), false⟩,
 ⟨.bin .eql (.t 17) (.c (.int .i64 8)), some 18, (some (15, false)), true⟩,
 ⟨.pick (.t 15) (.c (.bool true)) (.t 18), some 19, none, true⟩,
 ⟨.call (.f 49) [(.t 19), (.c (.int .i64 125))], some 20, none, false⟩])
 (.seq (.ops [⟨.load (some 5) (.t 3), some 21, none, false⟩,
 ⟨.call (.f 73) [(.t 21), (.c (.int .i64 1))], some 22, none, false⟩])
 (.seq (.ops [⟨.fieldAddr 4 (.t 3), some 23, none, true⟩,
 ⟨.load none (.t 23), some 24, none, false⟩,
 ⟨.indexAddrS 5 (.t 24) (.c (.int .i64 0)), some 25, none, false⟩,
 ⟨.fieldAddr 0 (.t 25), some 26, none, true⟩,
 ⟨.load none (.t 26), some 27, none, false⟩,
 ⟨.bin .geq (.t 27) (.c (.int .i64 20)), some 28, none, true⟩,
 ⟨.mov (.t 28), some 29, none, true⟩,
 ⟨.fieldAddr 4 (.t 3), some 30, (some (29, true)), true⟩,
 ⟨.load none (.t 30), some 31, (some (29, true)), false⟩,
 ⟨.indexAddrS 5 (.t 31) (.c (.int .i64 0)), some 32, (some (29, true)), false⟩,
 ⟨.fieldAddr 0 (.t 32), some 33, (some (29, true)), true⟩,
 ⟨.load none (.t 33), some 34, (some (29, true)), false⟩,
 ⟨.bin .leq (.t 34) (.c (.int .i64 27)), some 35, (some (29, true)), true⟩,
 ⟨.pick (.t 29) (.t 35) (.c (.bool false)), some 36, none, true⟩,
 ⟨.call (.f 49) [(.t 36), (.c (.int .i64 125))], some 37, none, false⟩])
 (.seq (.ops [⟨.mov (.t 0), some 38, none, true⟩,
 ⟨.fieldAddr 4 (.t 3), some 39, none, true⟩,
 ⟨.load none (.t 39), some 40, none, false⟩,
 ⟨.indexAddrS 5 (.t 40) (.c (.int .i64 0)), some 41, none, false⟩,
 ⟨.load (some 5) (.t 41), some 42, none, false⟩,
 ⟨.call (.f 97) [(.t 38), (.t 42)], some 43, none, false⟩,
 ⟨.alloc [(.int .i64 0), (.int .i64 0), (.str []), (.int .i64 0), .nilsl], some 8, none, false⟩,
 ⟨.store 5 (.t 8) (.t 43), none, none, false⟩])
 (.seq (.seq (.ops [⟨.fieldAddr 0 (.t 3), some 44, none, true⟩,
 ⟨.load none (.t 44), some 45, none, false⟩,
 ⟨.bin .eql (.t 45) (.c (.int .i64 7)), some 46, none, true⟩])
 (.cond (.t 46)
 (.ops [⟨.mov (.t 0), some 47, none, true⟩,
 ⟨.fieldAddr 2 (.t 3), some 48, none, true⟩,
 ⟨.load none (.t 48), some 49, none, false⟩,
 ⟨.fieldAddr 1 (.t 8), some 50, none, true⟩,
 ⟨.load none (.t 50), some 51, none, false⟩,
 ⟨.call (.f 76) [(.t 47), (.t 49), (.t 51)], some 52, none, false⟩])
 (.opsD 53 [⟨.mov (.t 0), some 53, none, true⟩,
 ⟨.fieldAddr 2 (.t 3), some 54, none, true⟩,
 ⟨.load none (.t 54), some 55, none, false⟩,
 ⟨.fieldAddr 1 (.t 8), some 57, none, true⟩,
 ⟨.loadOf none (.t 57) (.t 8), some 58, none, false⟩,
 ⟨.callNe (.f 123) [(.t 53), (.t 55)] [(.t 8)], some 56, none, false⟩,
 ⟨.bin .eql (.t 56) (.t 58), some 59, none, true⟩,
 ⟨.call (.f 49) [(.t 59), (.c (.int .i64 122))], some 60, none, false⟩])))
 (.ops [⟨.load (some 5) (.t 8), some 61, none, false⟩,
 ⟨.buildSlice 5 [(.int .i64 0), (.int .i64 0), (.str []), (.int .i64 0), .nilsl] 1 [(0, (.t 61))] false, some 62, none, true⟩,
 ⟨.fieldAddr 4 (.t 5), some 63, none, true⟩,
 ⟨.store 1 (.t 63) (.t 62), none, none, false⟩]))))))))))))))))))))))
 (.seq (.ops [⟨.load (some 5) (.t 5), some 182, none, false⟩,
 ⟨.store 5 (.t 4) (.t 182), none, none, false⟩])
 (.ret))))
theorem st98c : stmOf Tryz.prog 98 p98c = some (s98c, [.cell 4 (some 5)], 183) := by kernel_rfl
def cBlk (G : Nat) (args : List D) (h : AHeap) (K E : D → AHeap → Prop) : Prop := ∃ (c : Nat) (p : Nd) (sc : Scp) (dn dt : D) (ans : Int) (x : Nd), args = [.ptr c 1 0, .agg x.enc] ∧ ScAt h c p sc dn dt ans ∧ x.cnt < G ∧ x.cnt + sc.length ≤ 1000000 ∧
  (match blockF p.lD ans x sc with
  | .ok x' => ∀ h' dn' dt', ScAt h' c p sc dn' dt' ans → Grow h h' c → K (.agg x'.enc) h'
  | .error e => ∀ h', Grow h h' c → E (faultD e) h')
theorem cBlk_mono (G : Nat) (args : List D) (h : AHeap) (K E K' E' : D → AHeap → Prop) (hk : ∀ d h, K d h → K' d h) (he : ∀ d h, E d h → E' d h) (c : cBlk G args h K E) : cBlk G args h K' E' := by
  obtain ⟨c, p, sc, dn, dt, ans, x, a, b, d, e, k⟩ := c
  refine ⟨c, p, sc, dn, dt, ans, x, a, b, d, e, ?_⟩
  split at k
  · exact fun h' dn' dt' x y => hk _ _ (k h' dn' dt' x y)
  · exact fun h' g => he _ _ (k h' g)
def tbBl (G : Nat) : Tab := tb76c.addE 75 (cBlk G) (cBlk_mono G)
theorem tbBl_q {G : Nat} : (tbBl G).q = tb76c.q := rfl
theorem tbBl_a {G : Nat} : (tbBl G).a = tb76c.a := rfl
theorem tbBl_c {G : Nat} (g : FuncId) (args : List D) (h : AHeap) (K E : D → AHeap → Prop) : (tbBl G).c g args h K E = if g = 75 then cBlk G args h K E else tb76c.c g args h K E := rfl
theorem tbBl_e : type_of% (And.intro (And.intro @tbBl_q (And.intro @tbBl_a @tbBl_c)) @tb76c_e) := (And.intro (And.intro @tbBl_q (And.intro @tbBl_a @tbBl_c)) @tb76c_e)
theorem tbBl_ok {G : Nat} (hT : (tbSt G).ok Tryz.prog) : (tbBl (G + 1)).ok Tryz.prog := Tab.addE_ok tb76c_ok fun args h K E ⟨c, p, sc, dn, dt, ans, x, a, b, d, e, k⟩ => by
  subst a
  exact block_step G hT c p sc dn dt ans x d e h b K E k
theorem defF_len {ks : List Nd} {sc sc' : Scp} {s : List UInt8} {t : Int} (h : defF ks sc s t = .ok sc') : sc'.length ≤ sc.length + 1 := by
  unfold defF at h
  generalize ((findS sc s).isNone && (match findK ks s with | none => true | some o => o.kD != 2)) = b at h
  cases b with
  | false => cases h
  | true => cases h; simp
theorem blockF_mk {ks : List Nd} {ans k t : Int} {s : List UInt8} {n : Int} {l : List Nd} {sc : Scp} (h : (k == 6) = true) : blockF ks ans (.mk k t s n l) sc = match stmtsF ks ans l sc with
    | .ok (l', _) => .ok (.mk k t s n l')
    | .error e => .error e := by
  unfold blockF
  rw [if_pos (show ((Nd.mk k t s n l).kD == 6) = true from h)]
  rfl
theorem blocksF_nil (ks : List Nd) (ans : Int) (sc : Scp) : blocksF ks ans [] sc = .ok [] := by rw [blocksF]
theorem blocksF_cons (ks : List Nd) (ans : Int) (x : Nd) (r : List Nd) (sc : Scp) : blocksF ks ans (x :: r) sc = match blockF ks ans x sc with
    | .ok x' => match blocksF ks ans r sc with
      | .ok r' => .ok (x' :: r')
      | .error e => .error e
    | .error e => .error e := by
  obtain ⟨k, t, s, n, l⟩ := x
  rw [blocksF.eq_def]
  simp only
  cases k6 : (k == 6) with
  | false =>
    have : blockF ks ans (.mk k t s n l) sc = .error 125 := by
      unfold blockF
      rw [if_neg (show ¬ ((Nd.mk k t s n l).kD == 6) = true from by show ¬ (k == 6) = true; rw [k6]; simp)]
    rw [this]; simp
  | true =>
    rw [blockF_mk k6]
    simp only [if_true]
    cases stmtsF ks ans l sc with
    | error e => rfl
    | ok q => obtain ⟨l', sc'⟩ := q; rfl
theorem slN_take (l : List Nd) (i : Nat) (h : i ≤ l.length) : sliceEv (.sl 5) (.sl (Nd.encs l)) none (some (.int .i64 (i : Int))) none = some (.sl (Nd.encs (l.take i))) := by
  have h1 : ∀ y ∈ Nd.encs l, y.length = 5 := fun y hy => by
    rw [encs_map] at hy
    obtain ⟨x, _, rfl⟩ := List.mem_map.1 hy
    exact len_enc x
  simp only [sliceEv, bounds, intOfD, len_encs]
  rw [if_pos h1, if_pos ⟨by omega, by omega, by omega⟩]
  simp [encs_map, List.map_take]
theorem slN_drop (l : List Nd) (i : Nat) (h : i ≤ l.length) : sliceEv (.sl 5) (.sl (Nd.encs l)) (some (.int .i64 (i : Int))) none none = some (.sl (Nd.encs (l.drop i))) := by
  have h1 : ∀ y ∈ Nd.encs l, y.length = 5 := fun y hy => by
    rw [encs_map] at hy
    obtain ⟨x, _, rfl⟩ := List.mem_map.1 hy
    exact len_enc x
  simp only [sliceEv, bounds, intOfD, len_encs]
  rw [if_pos h1, if_pos ⟨by omega, by omega, by omega⟩]
  simp only [Option.map_some, Option.some.injEq, D.sl.injEq, Int.toNat_natCast, encs_map, List.map_drop]
  exact List.take_of_length_le (by simp)
def afterB (ks : List Nd) (ans : Int) (done l : List Nd) (sc : Scp) : CR (List Nd) := match blocksF ks ans l sc with
  | .ok l' => .ok (done ++ l')
  | .error e => .error e
theorem afterB_nil (ks : List Nd) (ans : Int) (done : List Nd) (sc : Scp) : afterB ks ans done [] sc = .ok done := by rw [afterB, blocksF_nil]; simp
theorem afterB_cons (ks : List Nd) (ans : Int) (done : List Nd) (x : Nd) (l : List Nd) (sc : Scp) : afterB ks ans done (x :: l) sc = match blockF ks ans x sc with
    | .ok x' => afterB ks ans (done ++ [x']) l sc
    | .error e => .error e := by
  rw [afterB, blocksF_cons]
  cases blockF ks ans x sc with
  | error e => rfl
  | ok x' =>
    simp only [afterB]
    cases blocksF ks ans l sc with
    | error e => rfl
    | ok l' => simp
theorem Ext.grow {h h' : AHeap} (e : Ext h h') (c : Nat) : Grow h h' c where
  keep := fun i o a _ _ => by rw [e i (by rw [a]; simp)]; exact a
  view := fun d xs v => by
    rcases v with v | ⟨r, v, cur, ys, old, h1, h2, h3⟩
    · exact .inl v
    · exact .inr ⟨r, v, cur, ys, old, h1, by rw [e r (by rw [h2]; simp)]; exact h2, h3⟩
  dom := fun i n => by rw [e i n]; exact n
theorem fin_plain2 {K E : D → AHeap → Prop} {σ : Fr} {A : AHeap} {a i2 : Nat} {x : Nd} (hσ : σ.env a = .ptr i2 1 0) (hA : A.f i2 = some (.cells x.enc)) (hk : K (.agg x.enc) A) : finD [.cell a (some 5)] (AOut.to K E) σ none A := by
  refine ⟨[.agg x.enc], ?_, .inl ⟨A, AHeap.sub_refl _, hk⟩⟩
  simp [evRes, hσ, loadD, hA, part_enc]
set_option maxHeartbeats 1000000 in
theorem stmt_step (G : Nat) (hT : (tbBl (G + 1)).ok Tryz.prog) (c : Nat) (p : Nd) (sc : Scp) (dn dt : D) (ans : Int) (x : Nd) (hx : x.cnt < G + 1) (hb : x.cnt + sc.length ≤ 1000000) (h : AHeap) (hs : ScAt h c p sc dn dt ans) (K E : D → AHeap → Prop)
    (hk : match stmtF p.lD ans x sc with
      | .ok (x', sc') => ∀ h' dn' dt', ScAt h' c p sc' dn' dt' ans → Grow h h' c → sc'.length ≤ sc.length + 1 → K (.agg x'.enc) h'
      | .error e => ∀ h', Grow h h' c → E (faultD e) h') : ACalls Tryz.prog 98 [.ptr c 1 0, .agg x.enc] h (AOut.to K E) := by
  refine ACalls.of_stmD hT (dc := DTab.none) (fun _ _ => DTab.none_ok) (by kernel_rfl) st98c (by simp) ?_
  rw [vc_todo]
  obtain ⟨k, t, s, n, l⟩ := x
  have hcnt : ∀ y ∈ l, y.cnt < G := fun y hy => by have := cnt_kid (k := k) (t := t) (s := s) (n := n) hy; omega
  have hln : Nd.cnts l + sc.length + 1 ≤ 1000000 := by rw [cnt_mk] at hb; omega
  have hll : l.length ≤ 1000000 := by have := cnts_len l; omega
  rw [stmtF.eq_def] at hk
  simp only at hk
  rw [enc_mk]
  simp (maxSteps := 1000000) only [s98c, tbBl_e, tb76c_e, zzK, seval]
  intro i1 k1 i2 n1 n2 k2
  simp (maxSteps := 1000000) only [n1, n2, tbBl_e, tb76c_e, zzK, seval]
  intro i3 m1 m2 m3 m4 k3
  simp (maxSteps := 1000000) only [n1, n2, m1, m2, m3, m4, tbBl_e, tb76c_e, zzK, seval]
  have ho := hs.obj
  have d1 : ¬ c = i1 := fun e => by rw [e, k1] at ho; cases ho
  have d2 : ¬ c = i2 := fun e => by rw [e, k2] at ho; cases ho
  have d3 : ¬ c = i3 := fun e => by rw [e, k3] at ho; cases ho
  have d1' : ¬ i1 = c := fun e => d1 e.symm
  have d2' : ¬ i2 = c := fun e => d2 e.symm
  have d3' : ¬ i3 = c := fun e => d3 e.symm
  have ext3 : ∀ o o' o'', Ext h (((h.set i1 o).set i2 o').set i3 o'') := fun o o' o'' => (((Ext.refl h).set k1).set k2).set k3
  cases k14 : (k == 14) with
  | true =>
    simp only [k14, if_true] at hk
    simp (maxSteps := 1000000) only [k14, n1, n2, m1, m2, m3, m4, tbBl_e, tb76c_e, zzK, seval]
    refine ⟨.mk k t s n l, 0, by rw [enc_mk], ?_⟩
    simp only [Nd.lD]
    cases cl : (l.length == 0) with
    | false =>
      have cl' : ((l.length : Int) == 0) = false := beq_eq_false_iff_ne.2 (by have := beq_eq_false_iff_ne.1 cl; omega)
      simp only [cl, Bool.false_eq_true, if_false] at hk
      simp (maxSteps := 1000000) only [cl', cond_false, panD, leav_nil, finD, zzK, seval]
      exact ⟨_, AHeap.sub_refl _, hk _ ((ext3 _ _ _).grow c)⟩
    | true =>
      have cl' : ((l.length : Int) == 0) = true := beq_iff_eq.2 (by have := beq_iff_eq.1 cl; omega)
      simp only [cl, if_true] at hk
      simp (maxSteps := 1000000) only [cl', cond_true, n1, n2, m1, m2, m3, m4, retD_ret, leav_nil, tbBl_e, tb76c_e, zzK, seval]
      exact fin_plain (x := .mk k t s n l) (i2 := i2) (by simp only [zzK, seval]) (by simp [enc_mk]) ((ext3 _ _ _).set k2) (hk h dn dt hs (Grow.refl h c) (by omega))
  | false =>
    simp only [k14, Bool.false_eq_true, if_false] at hk
    cases k6 : (k == 6) with
    | true =>
      simp only [k6, if_true] at hk
      simp (maxSteps := 1000000) only [k14, k6, n1, n2, m1, m2, m3, m4, tbBl_e, tb76c_e, zzK, seval]
      refine ⟨c, p, sc, dn, dt, ans, .mk k t s n l, by rw [enc_mk], hs.ext (ext3 _ _ _), hx, hb, ?_⟩
      rw [blockF_mk k6]
      cases hq : stmtsF p.lD ans l sc with
      | error e =>
        rw [hq] at hk
        simp only at hk ⊢
        intro h' g
        simp only [panD, leav_nil, finD]
        exact ⟨_, AHeap.sub_refl _, hk _ (((ext3 _ _ _).grow c).trans g)⟩
      | ok q =>
        obtain ⟨l', sc'⟩ := q
        rw [hq] at hk
        simp only at hk ⊢
        intro h' dn' dt' s' g
        have gg := ((ext3 _ _ _).grow c).trans g
        have u2 := g.keep i2 (.cells [.int .i64 0, .int .i64 0, .str [], .int .i64 0, .nilsl]) (by simp [n1, n2, m1, m2, m3, m4]) d2' (fun _ _ _ _ e => by cases e)
        simp (maxSteps := 1000000) only [enc_mk, u2, retD_ret, leav_nil, tbBl_e, tb76c_e, zzK, seval]
        exact fin_plain2 (x := .mk k t s n l') (i2 := i2) (by simp only [zzK, seval]) (by simp [enc_mk]) (hk _ dn' dt' (s'.put d2' (by simp [u2])) (gg.put (.inl k2) (by simp [u2])) (by omega))
    | false =>
      simp only [k6, Bool.false_eq_true, if_false] at hk
      cases k9 : (k == 9) with
      | true =>
        have k10 : (k == 10) = false := by rw [beq_iff_eq.1 k9]; rfl
        simp only [k9, k10, Bool.or_false, Bool.true_or, Bool.false_and, Bool.true_and, if_true] at hk
        simp (maxSteps := 1000000) only [k14, k6, k9, n1, n2, m1, m2, m3, m4, len_encs, tbBl_e, tb76c_e, zzK, seval]
        cases cl : (l.length == 2 || l.length == 3) with
        | false =>
          have hk : ∀ h', Grow h h' c → E (faultD 125) h' := by
            match l, cl, hk with
            | [], _, hk => exact hk
            | [_], _, hk => simpa using hk
            | [_, _], cl, _ => cases cl
            | [_, _, _], cl, _ => cases cl
            | _ :: _ :: _ :: _ :: _, _, hk => simpa using hk
          simp only [Bool.or_eq_false_iff, beq_eq_false_iff_ne] at cl
          have c2c : ((l.length : Int) == 2) = false := beq_eq_false_iff_ne.2 (by omega)
          have c3c : ((l.length : Int) == 3) = false := beq_eq_false_iff_ne.2 (by omega)
          intro _
          simp (maxSteps := 1000000) only [c2c, c3c, Bool.false_eq_true, if_false, n1, n2, m1, m2, m3, m4, len_encs, cNeed, q49c, crP_err, cond_false, panD, leav_nil, finD, tbBl_e, tb76c_e, zzK, seval]
          intro _
          exact ⟨_, AHeap.sub_refl _, hk _ ((ext3 _ _ _).grow c)⟩
        | true =>
          obtain ⟨x0, rs, hl0, hr⟩ : ∃ x0 rs, l = x0 :: rs ∧ (rs.length = 1 ∨ rs.length = 2) := by
            match l, cl with
            | [x0, a], _ => exact ⟨x0, [a], rfl, .inl rfl⟩
            | [x0, a, b], _ => exact ⟨x0, [a, b], rfl, .inr rfl⟩
          subst hl0
          have hrb : (rs.length == 1 || rs.length == 2) = true := by rcases hr with hr | hr <;> simp [hr]
          simp only [hrb, if_true] at hk
          have hx0 : x0.cnt ≤ 1000000 := by rw [cnts_cons] at hln; omega
          have hac : ∀ (K : D → AHeap → Prop) (h : AHeap), askE 5 K h (Nd.encs (x0 :: rs)) (0 : Int) = K (.eptr x0.enc 0) h := fun K h => askE_encs (l := x0 :: rs) (i := 0) rfl
          obtain ⟨xk, xt, xs, xn, xl⟩ := x0
          rw [enc_mk] at hac
          have hsl : sliceEv (.sl 5) (.sl (Nd.encs (.mk xk xt xs xn xl :: rs))) (some (.int .i64 1)) none none = some (.sl (Nd.encs rs)) := slN_drop (.mk xk xt xs xn xl :: rs) 1 (by simp)
          rcases hr with hr | hr
          have c2c : (((rs.length + 1 : Nat) : Int) == 2) = true := by rw [hr]; rfl
          intro _
          simp (maxSteps := 1000000) only [c2c, hac, n1, n2, m1, m2, m3, m4, len_encs, cNeed, q49c, crP_ok, cond_true, tbBl_e, tb76c_e, zzK, seval]
          rotate_left
          have c2c : (((rs.length + 1 : Nat) : Int) == 2) = false := by rw [hr]; rfl
          have c3c : (((rs.length + 1 : Nat) : Int) == 3) = true := by rw [hr]; rfl
          intro _
          simp (maxSteps := 1000000) only [c2c, c3c, Bool.false_eq_true, if_false, hac, n1, n2, m1, m2, m3, m4, len_encs, cNeed, q49c, crP_ok, cond_true, cond_false, tbBl_e, tb76c_e, zzK, seval]
          intro _
          all_goals
            refine ⟨c, p, sc, dn, dt, ans, .mk xk xt xs xn xl, 3, by rw [enc_mk], hs.ext (ext3 _ _ _), hx0, ?_⟩
            cases hq : typedF p.lD sc (.mk xk xt xs xn xl) 3 with
            | error e =>
              rw [hq] at hk
              simp only at hk
              simp only [crN_err, crP_err, panD, leav_nil, finD]
              exact ⟨_, AHeap.sub_refl _, hk _ ((ext3 _ _ _).grow c)⟩
            | ok y =>
              rw [hq] at hk
              simp only at hk
              obtain ⟨yk, yt, ys, yn, yl⟩ := y
              simp (maxSteps := 1000000) only [crN_ok, crP_ok, enc_mk, hsl, n1, n2, m1, m2, m3, m4, len_encs, tbBl_e, tb76c_e, zzK, seval]
              intro r0 q1c q2c q3c q4c q5c q6c kr
              simp (maxSteps := 1000000) only [hsl, q1c, q2c, q3c, q4c, q5c, q6c, n1, n2, m1, m2, m3, m4, len_encs, tbBl_e, tb76c_e, zzK, seval]
              intro hrl
              have dr' : ¬ r0 = c := fun e => by rw [e, ho] at kr; cases kr
              have hkA : match afterB p.lD ans [.mk yk yt ys yn yl] rs sc with
                  | .ok ks => ∀ h' dn' dt', ScAt h' c p sc dn' dt' ans → Grow h h' c → sc.length ≤ sc.length + 1 → K (.agg (Nd.enc (.mk k t s n ks))) h'
                  | .error e => ∀ h', Grow h h' c → E (faultD e) h' := by
                unfold afterB
                cases hb2 : blocksF p.lD ans rs sc with
                | error e => rw [hb2] at hk; exact hk
                | ok r' => rw [hb2] at hk; exact hk
              refine run_loop (X := Nat × Nat × List Nd × D × D × AHeap) (fun z => [(0, .ptr c 1 0), (3, .ptr i1 1 0), (4, .ptr i2 1 0), (5, .ptr i3 1 0), (96, .sl (Nd.encs rs)), (97, .int .i64 rs.length), (98, .int .i64 z.1)]) (fun z => z.2.2.2.2.2) (fun z => rs.length - z.1)
                (fun z => z.1 ≤ rs.length ∧ z.2.2.2.2.2.f i2 = some (.cells [.int .i64 0, .int .i64 0, .str [], .int .i64 0, .nilsl]) ∧
                  z.2.2.2.2.2.f i3 = some (.cells [.int .i64 k, .int .i64 t, .str s, .int .i64 n, ownD z.2.1 (z.1 + 1)]) ∧ z.2.2.1.length = z.1 + 1 ∧
                  (h.f z.2.1 = none ∧ z.2.2.2.2.2.f z.2.1 = some (.row 5 (z.1 + 1 + 2) (Nd.encs z.2.2.1) false)) ∧
                  ScAt z.2.2.2.2.2 c p sc z.2.2.2.1 z.2.2.2.2.1 ans ∧ Grow h z.2.2.2.2.2 c ∧ afterB p.lD ans [.mk yk yt ys yn yl] rs sc = afterB p.lD ans z.2.2.1 (rs.drop z.1) sc) (0, r0, [.mk yk yt ys yn yl], dn, dt, _) ⟨Nat.zero_le _, ?_, ?_, rfl, ⟨kr, ?_⟩, ?_, ?_, by rw [List.drop_zero]⟩ ?_ (AHeap.sub_refl _) ?_
              · simp [q1c, q2c, q3c, q4c, q5c, q6c, n1, n2, m1, m2, m3, m4]
              · simp [q1c, q2c, q3c, q4c, q5c, q6c, n1, n2, m1, m2, m3, m4, ownD_pos]
              · simp [q1c, q2c, q3c, q4c, q5c, q6c, n1, n2, m1, m2, m3, m4, encs_cons, encs_nil, enc_mk]
              · exact ((hs.ext (ext3 _ _ _)).put dr' (by simp [q1c, q2c, q3c, q4c, q5c, q6c, n1, n2, m1, m2, m3, m4, kr])).put d3' (by simp [q1c, q2c, q3c, q4c, q5c, q6c, n1, n2, m1, m2, m3, m4])
              · exact (((ext3 _ _ _).grow c).put (.inl kr) (by simp [q1c, q2c, q3c, q4c, q5c, q6c, n1, n2, m1, m2, m3, m4, kr])).put (.inl k3) (by simp [q1c, q2c, q3c, q4c, q5c, q6c, n1, n2, m1, m2, m3, m4])
              · simp only [zzK, seval]
              rintro ⟨i, r, done, dn1, dt1, hh⟩ Q ⟨j0, v2, v3, vd, ⟨vr0, vr⟩, vs, vg, va⟩ hQ
              simp only at j0 v2 v3 vd vr0 vr vs vg va hQ ⊢
              have rc : ¬ r = c := fun e => by rw [e, ho] at vr0; cases vr0
              have ri2 : ¬ r = i2 := fun e => by rw [e, v2] at vr; cases vr
              have ri3 : ¬ r = i3 := fun e => by rw [e, v3] at vr; cases vr
              have nar : ∀ {ds : List D}, ∀ sz ver xs old, AObj.cells ds ≠ .arow sz ver xs old := fun _ _ _ _ e => by cases e
              cases c0c : decide (i < rs.length) with
              | true =>
                have c0c : i < rs.length := by simpa using c0c
                obtain ⟨y, hy⟩ : ∃ y, rs[i]? = some y := ⟨_, List.getElem?_eq_getElem c0c⟩
                have g : ((i : Int) < (rs.length : Int)) = True := eq_true (by omega)
                have hym : y ∈ rs := List.mem_of_getElem? hy
                have wi : IntKind.i64.wrap ((i : Int) + 1) = ((i + 1 : Nat) : Int) := wrap_succ (by omega)
                have hac2 : ∀ (K : D → AHeap → Prop) (h : AHeap), askE 5 K h (Nd.encs rs) (i : Int) = K (.eptr y.enc 0) h := fun K h => askE_encs hy
                have hyc := hcnt y (by simp [hym])
                have hyb : y.cnt + sc.length ≤ 1000000 := by have := cnts_mem_le hym; rw [cnts_cons] at hln; omega
                rw [drop_consX hy, afterB_cons] at va
                obtain ⟨yk', yt', yx', ym', yl'⟩ := y
                rw [enc_mk] at hac2
                simp (maxSteps := 1000000) only [g, v2, v3, hac2, tbBl_e, tb76c_e, zzK, seval]
                intro i7 k7
                have ne_of : ∀ {q : Nat} {o : AObj}, hh.f q = some o → ¬ i7 = q := fun hq e => by rw [e, hq] at k7; cases k7
                have p2c := ne_of v2
                have p3c := ne_of v3
                have pr := ne_of vr
                have pc := ne_of vs.obj
                have p2c' : ¬ i2 = i7 := fun e => p2c e.symm
                have p3c' : ¬ i3 = i7 := fun e => p3c e.symm
                have pr' : ¬ r = i7 := fun e => pr e.symm
                have kh7 : h.f i7 = none := by
                  by_cases e : h.f i7 = none
                  · exact e
                  · exact absurd k7 (vg.dom i7 e)
                have s7c := fun o => vs.put (o := o) pc (by simp [k7])
                have g7 := fun o => vg.put (o := o) (.inl kh7) (by simp [k7])
                simp (maxSteps := 1000000) only [v2, v3, p2c, p3c, p2c', p3c', tbBl_e, tb76c_e, zzK, seval]
                refine ⟨c, p, sc, dn1, dt1, ans, .mk yk' yt' yx' ym' yl', by rw [enc_mk], s7c _, by omega, hyb, ?_⟩
                cases he : blockF p.lD ans (.mk yk' yt' yx' ym' yl') sc with
                | error e =>
                  rw [he] at va
                  simp only at va ⊢
                  rw [va] at hkA
                  intro h' gh σ hσ _
                  simp only [panD]
                  rw [hσ]
                  simp only [leav_nil, finD]
                  exact ⟨_, AHeap.sub_refl _, hkA _ ((g7 _).trans gh)⟩
                | ok y' =>
                  rw [he] at va
                  simp only at va ⊢
                  intro h' dn2 dt2 vs2 gh
                  have u2 := gh.keep i2 _ (by rw [AHeap.set_f, if_neg p2c']; exact v2) d2' nar
                  have u3 := gh.keep i3 _ (by rw [AHeap.set_f, if_neg p3c']; exact v3) d3' nar
                  have ur := gh.keep r _ (by rw [AHeap.set_f, if_neg pr']; exact vr) rc (fun _ _ _ _ e => by cases e)
                  have gg := (g7 _).trans gh
                  refine ⟨u3, ⟨len_enc y', enc_ok y'⟩, ?_⟩
                  rw [show cellsD (D.agg y'.enc) = y'.enc from rfl, enc_unnil]
                  have hxn : (Nd.encs done).length = i + 1 := by rw [len_encs, vd]
                  refine app_own2c (b := 64) hxn (fun _ => ur) ⟨len_enc y', enc_ok y'⟩ (by omega) (by omega) fun r' a1 a2 => ?_
                  have er : r' = r := a2 (Nat.succ_ne_zero i)
                  subst er
                  have ri2' : ¬ i2 = r' := fun e => ri2 e.symm
                  have ri3' : ¬ i3 = r' := fun e => ri3 e.symm
                  simp (maxSteps := 1000000) only [u2, u3, ri2, ri3, ri2', ri3', wi, tbBl_e, tb76c_e, zzK, seval]
                  refine hQ (i + 1, r', done ++ [y'], dn2, dt2, _) _ _ ⟨c0c, ?_, ?_, ?_, ⟨vr0, ?_⟩, ?_, ?_, va⟩ (by simp only [ownD_pos (Nat.succ_ne_zero _), zzK, seval]) (AHeap.sub_refl _) (by simp only; omega)
                  · simp [ri2', u2, m1, m2, m3, m4]
                  · simp [ownD_pos]
                  · simp [vd]
                  · simp [ri3, ri3', encs_snoc]
                  · exact (vs2.put rc (by simp [ur])).put d3' (by simp [ri3', u3])
                  · exact (gg.put (.inl vr0) (by simp [ur])).put (.inl k3) (by simp [ri3', u3])
              | false =>
                have e0 : i = rs.length := by simp at c0c; omega
                have g : ((i : Int) < (rs.length : Int)) = False := eq_false (by omega)
                rw [List.drop_eq_nil_of_le (by omega), afterB_nil] at va
                rw [va] at hkA
                have hok : cellOk (ownD r (i + 1)) = true := by unfold ownD; split <;> rfl
                simp (maxSteps := 1000000) only [g, v2, v3, hok, retD_ret, leav_nil, tbBl_e, tb76c_e, zzK, seval]
                have sF := vs.put (i := i2) (o := .cells [.int .i64 k, .int .i64 t, .str s, .int .i64 n, ownD r (i + 1)]) d2' (by simp [v2])
                have gF := vg.put (i := i2) (o := .cells [.int .i64 k, .int .i64 t, .str s, .int .i64 n, ownD r (i + 1)]) (.inl k2) (by simp [v2])
                refine fin_node2 (i2 := i2) (r := r) (i := i + 1) (done := done) (by simp only [zzK, seval]) (by simp only [zzK, seval]) vd (fun h0 => by simp [ri2, vr]) (fun h0 => absurd h0 (Nat.succ_ne_zero i)) (fun h0 => hkA _ dn1 dt1 (sF.put rc (by simp [ri2, vr])) (gF.put (.inl vr0) (by simp [ri2, vr])) (by omega))
      | false =>
        cases k10 : (k == 10) with
        | true =>
          simp only [k9, k10, Bool.or_true, Bool.false_or, Bool.false_and, Bool.true_and, if_true] at hk
          simp (maxSteps := 1000000) only [k14, k6, k9, k10, n1, n2, m1, m2, m3, m4, tbBl_e, tb76c_e, zzK, seval]
          refine ⟨.mk k t s n l, 2, by rw [enc_mk], ?_⟩
          simp only [Nd.lD]
          cases cl : (l.length == 2) with
          | false =>
            have cl' : ((l.length : Int) == 2) = false := beq_eq_false_iff_ne.2 (by have := beq_eq_false_iff_ne.1 cl; omega)
            have hk : ∀ h', Grow h h' c → E (faultD 125) h' := by
              match l, cl, hk with
              | [], _, hk => exact hk
              | [_], _, hk => exact hk
              | [_, _], cl, _ => cases cl
              | _ :: _ :: _ :: _, _, hk => simpa using hk
            simp (maxSteps := 1000000) only [cl', cond_false, panD, leav_nil, finD, zzK, seval]
            exact ⟨_, AHeap.sub_refl _, hk _ ((ext3 _ _ _).grow c)⟩
          | true =>
            have cl' : ((l.length : Int) == 2) = true := beq_iff_eq.2 (by have := beq_iff_eq.1 cl; omega)
            obtain ⟨x0, x1, hl0⟩ : ∃ x0 x1, l = [x0, x1] := by
              match l, cl with
              | [x0, x1], _ => exact ⟨x0, x1, rfl⟩
            subst hl0
            simp only [List.length_cons, List.length_nil, Nat.zero_add, beq_self_eq_true, if_true, blocksF_cons, blocksF_nil] at hk
            have hx0 : x0.cnt ≤ 1000000 := by rw [cnts_cons] at hln; omega
            have hx1 : x1.cnt + sc.length ≤ 1000000 := by rw [cnts_cons, cnts_cons] at hln; omega
            have hx1' := hcnt x1 (by simp)
            have hac : ∀ (K : D → AHeap → Prop) (h : AHeap), askE 5 K h (Nd.encs [x0, x1]) (0 : Int) = K (.eptr x0.enc 0) h := fun K h => askE_encs (l := [x0, x1]) (i := 0) rfl
            have hv1 : valP (.indexAddrS 5 (.sl (Nd.encs [x0, x1])) (.int .i64 1)) = some (.eptr x1.enc 0) := by simp [encs_cons, encs_nil, valP, pureEv, len_enc]
            have hv0 : valP (.indexAddrS 5 (.sl (Nd.encs [x0, x1])) (.int .i64 0)) = some (.eptr x0.enc 0) := by simp [encs_cons, encs_nil, valP, pureEv, len_enc]
            obtain ⟨xk, xt, xs, xn, xl⟩ := x0
            obtain ⟨zk, zt, zs, zn, zl⟩ := x1
            rw [enc_mk] at hv0 hv1
            simp (maxSteps := 1000000) only [cl', cond_true, n1, n2, m1, m2, m3, m4, hv0, hv1, tbBl_e, tb76c_e, zzK, seval]
            refine ⟨c, p, sc, dn, dt, ans, .mk xk xt xs xn xl, 3, by rw [enc_mk], hs.ext (ext3 _ _ _), hx0, ?_⟩
            cases hq : typedF p.lD sc (.mk xk xt xs xn xl) 3 with
            | error e =>
              rw [hq] at hk
              simp only at hk
              simp only [crN_err, crP_err]
              intro σ hσ _
              simp only [panD]
              rw [hσ]
              simp only [leav_nil, finD]
              exact ⟨_, AHeap.sub_refl _, hk _ ((ext3 _ _ _).grow c)⟩
            | ok y =>
              rw [hq] at hk
              simp only at hk
              obtain ⟨yk, yt, ys, yn, yl⟩ := y
              simp (maxSteps := 1000000) only [crN_ok, crP_ok, enc_mk, n1, n2, m1, m2, m3, m4, tbBl_e, tb76c_e, zzK, seval]
              refine ⟨c, p, sc, dn, dt, ans, .mk zk zt zs zn zl, by rw [enc_mk], hs.ext (ext3 _ _ _), Nat.lt_succ_of_lt hx1', hx1, ?_⟩
              cases hq2 : blockF p.lD ans (.mk zk zt zs zn zl) sc with
              | error e =>
                rw [hq2] at hk
                simp only at hk ⊢
                intro h' g σ hσ _
                simp only [panD]
                rw [hσ]
                simp only [leav_nil, finD]
                exact ⟨_, AHeap.sub_refl _, hk _ (((ext3 _ _ _).grow c).trans g)⟩
              | ok y2 =>
                rw [hq2] at hk
                obtain ⟨vk, vt, vs, vn, vl⟩ := y2
                simp only at hk ⊢
                intro h' dn' dt' s' g
                have gg := ((ext3 _ _ _).grow c).trans g
                have nar : ∀ {ds : List D}, ∀ sz ver xs old, AObj.cells ds ≠ .arow sz ver xs old := fun _ _ _ _ e => by cases e
                have u2 := g.keep i2 (.cells [.int .i64 0, .int .i64 0, .str [], .int .i64 0, .nilsl]) (by simp [n1, n2, m1, m2, m3, m4]) d2' nar
                have u3 := g.keep i3 (.cells [.int .i64 k, .int .i64 t, .str s, .int .i64 n, .sl (Nd.encs [.mk xk xt xs xn xl, .mk zk zt zs zn zl])]) (by simp [n1, n2, m1, m2, m3, m4]) d3' nar
                simp (maxSteps := 1000000) only [enc_mk, u2, u3, n1, n2, m1, m2, m3, m4, retD_ret, leav_nil, tbBl_e, tb76c_e, zzK, seval]
                exact fin_plain2 (x := .mk k t s n [.mk yk yt ys yn yl, .mk vk vt vs vn vl]) (i2 := i2) (by simp only [zzK, seval]) (by simp [enc_mk, encs_cons, encs_nil]) (hk _ dn' dt' ((s'.put d3' (by simp [u3])).put d2' (by simp [m1, m2, m3, m4, u2])) ((gg.put (.inl k3) (by simp [u3])).put (.inl k2) (by simp [m1, m2, m3, m4, u2])) (by omega))
        | false =>
          simp only [k9, k10, Bool.or_false, Bool.false_eq_true, if_false] at hk
          cases k11 : (k == 11) with
          | true =>
              simp only [k11, if_true] at hk
              simp (maxSteps := 1000000) only [k14, k6, k9, k10, k11, n1, n2, m1, m2, m3, m4, tbBl_e, tb76c_e, zzK, seval]
              refine ⟨.mk k t s n l, 1, by rw [enc_mk], ?_⟩
              simp only [Nd.lD]
              cases cl : (l.length == 1) with
              | false =>
                have cl' : ((l.length : Int) == 1) = false := beq_eq_false_iff_ne.2 (by have := beq_eq_false_iff_ne.1 cl; omega)
                have hk : ∀ h', Grow h h' c → E (faultD 125) h' := by
                  match l, cl, hk with
                  | [], _, hk => exact hk
                  | [_], cl, _ => cases cl
                  | _ :: _ :: _, _, hk => exact hk
                simp (maxSteps := 1000000) only [cl', cond_false, panD, leav_nil, finD, zzK, seval]
                exact ⟨_, AHeap.sub_refl _, hk _ ((ext3 _ _ _).grow c)⟩
              | true =>
                have cl' : ((l.length : Int) == 1) = true := beq_iff_eq.2 (by have := beq_iff_eq.1 cl; omega)
                obtain ⟨x0, hl0⟩ : ∃ x0, l = [x0] := by
                  match l, cl with
                  | [x0], _ => exact ⟨x0, rfl⟩
                subst hl0
                simp only at hk
                have hx0 : x0.cnt ≤ 1000000 := by rw [cnts_cons] at hln; omega
                have hac : ∀ (K : D → AHeap → Prop) (h : AHeap), askE 5 K h (Nd.encs [x0]) (0 : Int) = K (.eptr x0.enc 0) h := fun K h => askE_encs (l := [x0]) (i := 0) rfl
                obtain ⟨xk, xt, xs, xn, xl⟩ := x0
                rw [enc_mk] at hac
                obtain ⟨pk, pt, ps, pn, pl⟩ := p
                rw [cObj_mk] at ho
                simp only [Nd.lD] at hk
                simp (maxSteps := 1000000) only [cl', cond_true, ho, d1, d2, d3, n1, n2, m1, m2, m3, m4, hac, tbBl_e, tb76c_e, zzK, seval]
                cases d : (ans == 0) with
                | true =>
                  have d' : (ans != 0) = false := by simp only [bne, d]; rfl
                  simp only [d, if_true] at hk
                  simp (maxSteps := 1000000) only [d', cNeed, q49c, crP_err, cond_false, panD, leav_nil, finD, zzK, seval]
                  exact ⟨_, AHeap.sub_refl _, hk _ ((ext3 _ _ _).grow c)⟩
                | false =>
                  have d' : (ans != 0) = true := by simp only [bne, d]; rfl
                  simp only [d, Bool.false_eq_true, if_false] at hk
                  simp (maxSteps := 1000000) only [d', cNeed, q49c, crP_ok, cond_true, ho, d1, d2, d3, n1, n2, m1, m2, m3, m4, hac, tbBl_e, tb76c_e, zzK, seval]
                  refine ⟨c, .mk pk pt ps pn pl, sc, dn, dt, ans, .mk xk xt xs xn xl, ans, by rw [enc_mk], hs.ext (ext3 _ _ _), hx0, ?_⟩
                  cases hq : typedF pl sc (.mk xk xt xs xn xl) ans with
                  | error e =>
                    rw [hq] at hk
                    try simp only at hk
                    rw [show typedF (Nd.mk pk pt ps pn pl).lD sc (.mk xk xt xs xn xl) ans = _ from hq]
                    simp only [crN_err, crP_err]
                    intro σ hσ _
                    simp only [panD]
                    rw [hσ]
                    simp only [leav_nil, finD]
                    exact ⟨_, AHeap.sub_refl _, hk _ ((ext3 _ _ _).grow c)⟩
                  | ok y =>
                    rw [hq] at hk
                    try simp only at hk
                    rw [show typedF (Nd.mk pk pt ps pn pl).lD sc (.mk xk xt xs xn xl) ans = _ from hq]
                    obtain ⟨yk, yt, ys, yn, yl⟩ := y
                    simp (maxSteps := 1000000) only [crN_ok, crP_ok, enc_mk, n1, n2, m1, m2, m3, m4, retD_ret, leav_nil, tbBl_e, tb76c_e, zzK, seval]
                    exact fin_plain (x := .mk k t s n [.mk yk yt ys yn yl]) (i2 := i2) (by simp only [zzK, seval]) (by simp [enc_mk, encs_cons, encs_nil]) ((ext3 _ _ _).set k2) (hk h dn dt hs (Grow.refl h c) (by omega))
          | false =>
            simp only [k11, Bool.false_eq_true, if_false] at hk
            cases k12 : (k == 12) with
            | true =>
              simp only [k12, if_true] at hk
              simp (maxSteps := 1000000) only [k14, k6, k9, k10, k11, k12, n1, n2, m1, m2, m3, m4, tbBl_e, tb76c_e, zzK, seval]
              refine ⟨.mk k t s n l, 1, by rw [enc_mk], ?_⟩
              simp only [Nd.lD]
              cases cl : (l.length == 1) with
              | false =>
                have cl' : ((l.length : Int) == 1) = false := beq_eq_false_iff_ne.2 (by have := beq_eq_false_iff_ne.1 cl; omega)
                have hk : ∀ h', Grow h h' c → E (faultD 125) h' := by
                  match l, cl, hk with
                  | [], _, hk => exact hk
                  | [_], cl, _ => cases cl
                  | _ :: _ :: _, _, hk => exact hk
                simp (maxSteps := 1000000) only [cl', cond_false, panD, leav_nil, finD, zzK, seval]
                exact ⟨_, AHeap.sub_refl _, hk _ ((ext3 _ _ _).grow c)⟩
              | true =>
                have cl' : ((l.length : Int) == 1) = true := beq_iff_eq.2 (by have := beq_iff_eq.1 cl; omega)
                obtain ⟨x0, hl0⟩ : ∃ x0, l = [x0] := by
                  match l, cl with
                  | [x0], _ => exact ⟨x0, rfl⟩
                subst hl0
                simp only at hk
                have hx0 : x0.cnt ≤ 1000000 := by rw [cnts_cons] at hln; omega
                have hac : ∀ (K : D → AHeap → Prop) (h : AHeap), askE 5 K h (Nd.encs [x0]) (0 : Int) = K (.eptr x0.enc 0) h := fun K h => askE_encs (l := [x0]) (i := 0) rfl
                obtain ⟨xk, xt, xs, xn, xl⟩ := x0
                rw [enc_mk] at hac
                simp (maxSteps := 1000000) only [cl', cond_true, n1, n2, m1, m2, m3, m4, hac, tbBl_e, tb76c_e, zzK, seval]
                refine ⟨c, p, sc, dn, dt, ans, .mk xk xt xs xn xl, 3, by rw [enc_mk], hs.ext (ext3 _ _ _), hx0, ?_⟩
                cases hq : typedF p.lD sc (.mk xk xt xs xn xl) 3 with
                | error e =>
                  rw [hq] at hk
                  simp only at hk
                  simp only [crN_err, crP_err, panD, leav_nil, finD]
                  exact ⟨_, AHeap.sub_refl _, hk _ ((ext3 _ _ _).grow c)⟩
                | ok y =>
                  rw [hq] at hk
                  simp only at hk
                  obtain ⟨yk, yt, ys, yn, yl⟩ := y
                  simp (maxSteps := 1000000) only [crN_ok, crP_ok, enc_mk, n1, n2, m1, m2, m3, m4, retD_ret, leav_nil, tbBl_e, tb76c_e, zzK, seval]
                  exact fin_plain (x := .mk k t s n [.mk yk yt ys yn yl]) (i2 := i2) (by simp only [zzK, seval]) (by simp [enc_mk, encs_cons, encs_nil]) ((ext3 _ _ _).set k2) (hk h dn dt hs (Grow.refl h c) (by omega))
            | false =>
              simp only [k12, Bool.false_eq_true, if_false] at hk
              cases k13 : (k == 13) with
              | true =>
                  simp only [k13, if_true] at hk
                  simp (maxSteps := 1000000) only [k14, k6, k9, k10, k11, k12, k13, n1, n2, m1, m2, m3, m4, tbBl_e, tb76c_e, zzK, seval]
                  refine ⟨.mk k t s n l, 1, by rw [enc_mk], ?_⟩
                  simp only [Nd.lD]
                  cases cl : (l.length == 1) with
                  | false =>
                    have cl' : ((l.length : Int) == 1) = false := beq_eq_false_iff_ne.2 (by have := beq_eq_false_iff_ne.1 cl; omega)
                    have hk : ∀ h', Grow h h' c → E (faultD 125) h' := by
                      match l, cl, hk with
                      | [], _, hk => exact hk
                      | [_], cl, _ => cases cl
                      | _ :: _ :: _, _, hk => exact hk
                    simp (maxSteps := 1000000) only [cl', cond_false, panD, leav_nil, finD, zzK, seval]
                    exact ⟨_, AHeap.sub_refl _, hk _ ((ext3 _ _ _).grow c)⟩
                  | true =>
                    have cl' : ((l.length : Int) == 1) = true := beq_iff_eq.2 (by have := beq_iff_eq.1 cl; omega)
                    obtain ⟨x0, hl0⟩ : ∃ x0, l = [x0] := by
                      match l, cl with
                      | [x0], _ => exact ⟨x0, rfl⟩
                    subst hl0
                    simp only at hk
                    have hx0 : x0.cnt ≤ 1000000 := by rw [cnts_cons] at hln; omega
                    have hac : ∀ (K : D → AHeap → Prop) (h : AHeap), askE 5 K h (Nd.encs [x0]) (0 : Int) = K (.eptr x0.enc 0) h := fun K h => askE_encs (l := [x0]) (i := 0) rfl
                    obtain ⟨xk, xt, xs, xn, xl⟩ := x0
                    rw [enc_mk] at hac
                    simp (maxSteps := 1000000) only [cl', cond_true, n1, n2, m1, m2, m3, m4, hac, tbBl_e, tb76c_e, zzK, seval]
                    cases d : (xk == 24) with
                    | false =>
                      rw [if_neg (show ¬ ((Nd.mk xk xt xs xn xl).kD == 24) = true from by show ¬ (xk == 24) = true; rw [d]; simp)] at hk
                      simp (maxSteps := 1000000) only [d, cNeed, q49c, crP_err, cond_false, panD, leav_nil, finD, zzK, seval]
                      exact ⟨_, AHeap.sub_refl _, hk _ ((ext3 _ _ _).grow c)⟩
                    | true =>
                      rw [if_pos (show ((Nd.mk xk xt xs xn xl).kD == 24) = true from d)] at hk
                      simp (maxSteps := 1000000) only [d, cNeed, q49c, crP_ok, cond_true, n1, n2, m1, m2, m3, m4, hac, tbBl_e, tb76c_e, zzK, seval]
                      refine ⟨c, p, sc, dn, dt, ans, .mk xk xt xs xn xl, by rw [enc_mk], hs.ext (ext3 _ _ _), hx0, ?_⟩
                      cases hq : exprF p.lD sc (.mk xk xt xs xn xl) with
                      | error e =>
                        rw [hq] at hk
                        simp only at hk
                        simp only [crN_err, crP_err, panD, leav_nil, finD]
                        exact ⟨_, AHeap.sub_refl _, hk _ ((ext3 _ _ _).grow c)⟩
                      | ok y =>
                        rw [hq] at hk
                        simp only at hk
                        obtain ⟨yk, yt, ys, yn, yl⟩ := y
                        simp (maxSteps := 1000000) only [crN_ok, crP_ok, enc_mk, n1, n2, m1, m2, m3, m4, retD_ret, leav_nil, tbBl_e, tb76c_e, zzK, seval]
                        exact fin_plain (x := .mk k t s n [.mk yk yt ys yn yl]) (i2 := i2) (by simp only [zzK, seval]) (by simp [enc_mk, encs_cons, encs_nil]) ((ext3 _ _ _).set k2) (hk h dn dt hs (Grow.refl h c) (by omega))
              | false =>
                  simp only [k13, Bool.false_eq_true, if_false] at hk
                  cases k78 : (k == 7 || k == 8) with
                  | false =>
                    have k7 : (k == 7) = false := by revert k78; cases (k == 7) <;> simp
                    have k8 : (k == 8) = false := by revert k78; cases (k == 8) <;> simp
                    simp only [k78, k7, k8, Bool.or_false, Bool.false_eq_true, if_false] at hk
                    simp (maxSteps := 1000000) only [k14, k6, k9, k10, k11, k12, k13, k7, k8, n1, n2, m1, m2, m3, m4, cNeed, q49c, crP_err, cond_false, panD, leav_nil, finD, tbBl_e, tb76c_e, zzK, seval]
                    exact ⟨_, AHeap.sub_refl _, hk _ ((ext3 _ _ _).grow c)⟩
                  | true =>
                    simp only [k78, if_true] at hk
                    cases k7 : (k == 7) with
                    | true =>
                      simp (maxSteps := 1000000) only [k14, k6, k9, k10, k11, k12, k13, k7, cNeed, q49c, crP_ok, cond_true, n1, n2, m1, m2, m3, m4, tbBl_e, tb76c_e, zzK, seval]
                      refine ⟨.mk k t s n l, 1, by rw [enc_mk], ?_⟩
                      simp only [Nd.lD]
                      cases cl : (l.length == 1) with
                      | false =>
                        have cl' : ((l.length : Int) == 1) = false := beq_eq_false_iff_ne.2 (by have := beq_eq_false_iff_ne.1 cl; omega)
                        have hk : ∀ h', Grow h h' c → E (faultD 125) h' := by
                          match l, cl, hk with
                          | [], _, hk => exact hk
                          | [_], cl, _ => cases cl
                          | _ :: _ :: _, _, hk => exact hk
                        simp (maxSteps := 1000000) only [cl', cond_false, panD, leav_nil, finD, zzK, seval]
                        exact ⟨_, AHeap.sub_refl _, hk _ ((ext3 _ _ _).grow c)⟩
                      | true =>
                        have cl' : ((l.length : Int) == 1) = true := beq_iff_eq.2 (by have := beq_iff_eq.1 cl; omega)
                        obtain ⟨x0, hl0⟩ : ∃ x0, l = [x0] := by
                          match l, cl with
                          | [x0], _ => exact ⟨x0, rfl⟩
                        subst hl0
                        simp only at hk
                        have hx0 : x0.cnt ≤ 1000000 := by rw [cnts_cons] at hln; omega
                        have hac : ∀ (K : D → AHeap → Prop) (h : AHeap), askE 5 K h (Nd.encs [x0]) (0 : Int) = K (.eptr x0.enc 0) h := fun K h => askE_encs (l := [x0]) (i := 0) rfl
                        obtain ⟨xk, xt, xs, xn, xl⟩ := x0
                        rw [enc_mk] at hac
                        have hE0 : isEx xk = (decide (xk ≥ 20) && decide (xk ≤ 27)) := by simp [isEx]
                        by_cases q1c : 20 ≤ xk
                        · have g1 : (xk ≥ 20) = True := eq_true q1c
                          by_cases q2c : xk ≤ 27
                          · have hE : isEx (Nd.mk xk xt xs xn xl).kD = true := by simp [Nd.kD, isEx, q1c, q2c]
                            have g2 : decide (xk ≤ 27) = true := by simp [q2c]
                            rw [if_pos hE] at hk
                            simp (maxSteps := 1000000) only [cl', cond_true, g1, g2, k7, cNeed, q49c, crP_ok, n1, n2, m1, m2, m3, m4, hac, tbBl_e, tb76c_e, zzK, seval]
                            refine ⟨c, p, sc, dn, dt, ans, .mk xk xt xs xn xl, by rw [enc_mk], hs.ext (ext3 _ _ _), hx0, ?_⟩
                            cases hq : exprF p.lD sc (.mk xk xt xs xn xl) with
                            | error e =>
                              rw [hq] at hk
                              simp only at hk
                              simp only [crN_err, crP_err, panD, leav_nil, finD]
                              exact ⟨_, AHeap.sub_refl _, hk _ ((ext3 _ _ _).grow c)⟩
                            | ok y =>
                              rw [hq] at hk
                              simp only at hk
                              obtain ⟨yk, yt, ys, yn, yl⟩ := y
                              simp (maxSteps := 1000000) only [crN_ok, crP_ok, enc_mk, n1, n2, m1, m2, m3, m4, k7, tbBl_e, tb76c_e, zzK, seval]
                              intro i4 o1 o2 o3 o4 o5 o6 k4
                              have d4 : ¬ c = i4 := fun e => by rw [e, k4] at ho; cases ho
                              have d4' : ¬ i4 = c := fun e => d4 e.symm
                              have ext4 : ∀ o o' o'' o3, Ext h ((((h.set i1 o).set i2 o').set i3 o'').set i4 o3) := fun o o' o'' o3 => (ext3 o o' o'').set k4
                              simp only [Nd.tD] at hk
                              simp only [k7, if_true] at hk
                              simp (maxSteps := 1000000) only [k7, n1, n2, m1, m2, m3, m4, o1, o2, o3, o4, o5, o6, tbBl_e, tb76c_e, zzK, seval]
                              refine ⟨c, p, sc, dn, dt, ans, s, yt, rfl, hs.ext (ext4 _ _ _ _), by omega, ?_⟩
                              cases hd : defF p.lD sc s yt with
                              | error e =>
                                rw [hd] at hk
                                simp only at hk ⊢
                                simp only [panD, leav_nil, finD]
                                exact ⟨_, AHeap.sub_refl _, hk _ ((ext4 _ _ _ _).grow c)⟩
                              | ok sc' =>
                                rw [hd] at hk
                                simp only at hk ⊢
                                intro h' dn' dt' s' g
                                have hl := defF_len hd
                                have gg := ((ext4 _ _ _ _).grow c).trans g
                                have nar : ∀ {ds : List D}, ∀ sz ver xs old, AObj.cells ds ≠ .arow sz ver xs old := fun _ _ _ _ e => by cases e
                                have u2 := g.keep i2 (.cells [.int .i64 0, .int .i64 0, .str [], .int .i64 0, .nilsl]) (by simp [n1, n2, m1, m2, m3, m4, o1, o2, o3, o4, o5, o6]) d2' nar
                                have u3 := g.keep i3 (.cells [.int .i64 k, .int .i64 t, .str s, .int .i64 n, .sl (Nd.encs [.mk xk xt xs xn xl])]) (by simp [n1, n2, m1, m2, m3, m4, o1, o2, o3, o4, o5, o6]) d3' nar
                                have u4 := g.keep i4 (.cells [.int .i64 yk, .int .i64 yt, .str ys, .int .i64 yn, .sl (Nd.encs yl)]) (by simp [n1, n2, m1, m2, m3, m4, o1, o2, o3, o4, o5, o6]) d4' nar
                                simp (maxSteps := 1000000) only [u2, u3, u4, n1, n2, m1, m2, m3, m4, o1, o2, o3, o4, o5, o6, retD_ret, leav_nil, tbBl_e, tb76c_e, zzK, seval]
                                refine fin_plain2 (x := .mk k t s n [.mk yk yt ys yn yl]) (i2 := i2) (by simp only [zzK, seval]) (by simp [enc_mk, encs_cons, encs_nil]) (hk _ dn' dt' ((s'.put d3' (by simp [u3])).put d2' (by simp [m1, m2, m3, m4, u2])) ((gg.put (.inl k3) (by simp [u3])).put (.inl k2) (by simp [m1, m2, m3, m4, u2])) hl)
                          · have hE : isEx (Nd.mk xk xt xs xn xl).kD = false := by simp [Nd.kD, isEx, q2c]
                            have g2 : decide (xk ≤ 27) = false := by simp [q2c]
                            rw [if_neg (by rw [hE]; simp)] at hk
                            simp (maxSteps := 1000000) only [cl', cond_true, cond_false, g1, g2, k7, cNeed, q49c, crP_ok, crP_err, n1, n2, m1, m2, m3, m4, hac, panD, leav_nil, finD, tbBl_e, tb76c_e, zzK, seval]
                            exact ⟨_, AHeap.sub_refl _, hk _ ((ext3 _ _ _).grow c)⟩
                        · have g1 : (xk ≥ 20) = False := eq_false q1c
                          have hE : isEx (Nd.mk xk xt xs xn xl).kD = false := by simp [Nd.kD, isEx, q1c]
                          rw [if_neg (by rw [hE]; simp)] at hk
                          simp (maxSteps := 1000000) only [cl', cond_true, cond_false, g1, k7, cNeed, q49c, crP_ok, crP_err, n1, n2, m1, m2, m3, m4, hac, panD, leav_nil, finD, tbBl_e, tb76c_e, zzK, seval]
                          exact ⟨_, AHeap.sub_refl _, hk _ ((ext3 _ _ _).grow c)⟩
                    | false =>
                      have k8 : (k == 8) = true := by revert k78; rw [k7]; simp
                      simp (maxSteps := 1000000) only [k14, k6, k9, k10, k11, k12, k13, k7, k8, cNeed, q49c, crP_ok, cond_true, n1, n2, m1, m2, m3, m4, tbBl_e, tb76c_e, zzK, seval]
                      refine ⟨.mk k t s n l, 1, by rw [enc_mk], ?_⟩
                      simp only [Nd.lD]
                      cases cl : (l.length == 1) with
                      | false =>
                        have cl' : ((l.length : Int) == 1) = false := beq_eq_false_iff_ne.2 (by have := beq_eq_false_iff_ne.1 cl; omega)
                        have hk : ∀ h', Grow h h' c → E (faultD 125) h' := by
                          match l, cl, hk with
                          | [], _, hk => exact hk
                          | [_], cl, _ => cases cl
                          | _ :: _ :: _, _, hk => exact hk
                        simp (maxSteps := 1000000) only [cl', cond_false, panD, leav_nil, finD, zzK, seval]
                        exact ⟨_, AHeap.sub_refl _, hk _ ((ext3 _ _ _).grow c)⟩
                      | true =>
                        have cl' : ((l.length : Int) == 1) = true := beq_iff_eq.2 (by have := beq_iff_eq.1 cl; omega)
                        obtain ⟨x0, hl0⟩ : ∃ x0, l = [x0] := by
                          match l, cl with
                          | [x0], _ => exact ⟨x0, rfl⟩
                        subst hl0
                        simp only at hk
                        have hx0 : x0.cnt ≤ 1000000 := by rw [cnts_cons] at hln; omega
                        have hac : ∀ (K : D → AHeap → Prop) (h : AHeap), askE 5 K h (Nd.encs [x0]) (0 : Int) = K (.eptr x0.enc 0) h := fun K h => askE_encs (l := [x0]) (i := 0) rfl
                        obtain ⟨xk, xt, xs, xn, xl⟩ := x0
                        rw [enc_mk] at hac
                        have hE0 : isEx xk = (decide (xk ≥ 20) && decide (xk ≤ 27)) := by simp [isEx]
                        by_cases q1c : 20 ≤ xk
                        · have g1 : (xk ≥ 20) = True := eq_true q1c
                          by_cases q2c : xk ≤ 27
                          · have hE : isEx (Nd.mk xk xt xs xn xl).kD = true := by simp [Nd.kD, isEx, q1c, q2c]
                            have g2 : decide (xk ≤ 27) = true := by simp [q2c]
                            rw [if_pos hE] at hk
                            simp (maxSteps := 1000000) only [cl', cond_true, g1, g2, k7, k8, cNeed, q49c, crP_ok, n1, n2, m1, m2, m3, m4, hac, tbBl_e, tb76c_e, zzK, seval]
                            refine ⟨c, p, sc, dn, dt, ans, .mk xk xt xs xn xl, by rw [enc_mk], hs.ext (ext3 _ _ _), hx0, ?_⟩
                            cases hq : exprF p.lD sc (.mk xk xt xs xn xl) with
                            | error e =>
                              rw [hq] at hk
                              simp only at hk
                              simp only [crN_err, crP_err, panD, leav_nil, finD]
                              exact ⟨_, AHeap.sub_refl _, hk _ ((ext3 _ _ _).grow c)⟩
                            | ok y =>
                              rw [hq] at hk
                              simp only at hk
                              obtain ⟨yk, yt, ys, yn, yl⟩ := y
                              simp (maxSteps := 1000000) only [crN_ok, crP_ok, enc_mk, n1, n2, m1, m2, m3, m4, k7, k8, tbBl_e, tb76c_e, zzK, seval]
                              intro i4 o1 o2 o3 o4 o5 o6 k4
                              have d4 : ¬ c = i4 := fun e => by rw [e, k4] at ho; cases ho
                              have d4' : ¬ i4 = c := fun e => d4 e.symm
                              have ext4 : ∀ o o' o'' o3, Ext h ((((h.set i1 o).set i2 o').set i3 o'').set i4 o3) := fun o o' o'' o3 => (ext3 o o' o'').set k4
                              simp only [Nd.tD] at hk
                              simp only [k7, Bool.false_eq_true, if_false] at hk
                              simp (maxSteps := 1000000) only [k7, n1, n2, m1, m2, m3, m4, o1, o2, o3, o4, o5, o6, tbBl_e, tb76c_e, zzK, seval]
                              refine ⟨c, p, sc, dn, dt, ans, s, rfl, hs.ext (ext4 _ _ _ _), ?_⟩
                              cases hd : varF p.lD sc s with
                              | error e =>
                                rw [hd] at hk
                                simp only at hk
                                simp only [crR_err, crP_err]
                                intro σ hσ _
                                simp only [panD]
                                rw [hσ]
                                simp only [leav_nil, finD]
                                exact ⟨_, AHeap.sub_refl _, hk _ ((ext4 _ _ _ _).grow c)⟩
                              | ok t' =>
                                rw [hd] at hk
                                simp only at hk
                                cases dd : (t' == yt) with
                                | false =>
                                  simp only [dd, Bool.false_eq_true, if_false] at hk
                                  simp (maxSteps := 1000000) only [crR_ok, crP_ok, dd, cNeed, q49c, crP_err, cond_false, n1, n2, m1, m2, m3, m4, o1, o2, o3, o4, o5, o6, tbBl_e, tb76c_e, zzK, seval]
                                  intro σ hσ _
                                  simp only [panD]
                                  rw [hσ]
                                  simp only [leav_nil, finD]
                                  exact ⟨_, AHeap.sub_refl _, hk _ ((ext4 _ _ _ _).grow c)⟩
                                | true =>
                                  simp only [dd, if_true] at hk
                                  simp (maxSteps := 1000000) only [crR_ok, crP_ok, dd, cNeed, q49c, cond_true, n1, n2, m1, m2, m3, m4, o1, o2, o3, o4, o5, o6, retD_ret, leav_nil, tbBl_e, tb76c_e, zzK, seval]
                                  exact fin_plain (x := .mk k t s n [.mk yk yt ys yn yl]) (i2 := i2) (by simp only [zzK, seval]) (by simp [enc_mk, encs_cons, encs_nil]) (((ext4 _ _ _ _).set k3).set k2) (hk h dn dt hs (Grow.refl h c) (by omega))
                          · have hE : isEx (Nd.mk xk xt xs xn xl).kD = false := by simp [Nd.kD, isEx, q2c]
                            have g2 : decide (xk ≤ 27) = false := by simp [q2c]
                            rw [if_neg (by rw [hE]; simp)] at hk
                            simp (maxSteps := 1000000) only [cl', cond_true, cond_false, g1, g2, k7, k8, cNeed, q49c, crP_ok, crP_err, n1, n2, m1, m2, m3, m4, hac, panD, leav_nil, finD, tbBl_e, tb76c_e, zzK, seval]
                            exact ⟨_, AHeap.sub_refl _, hk _ ((ext3 _ _ _).grow c)⟩
                        · have g1 : (xk ≥ 20) = False := eq_false q1c
                          have hE : isEx (Nd.mk xk xt xs xn xl).kD = false := by simp [Nd.kD, isEx, q1c]
                          rw [if_neg (by rw [hE]; simp)] at hk
                          simp (maxSteps := 1000000) only [cl', cond_true, cond_false, g1, k7, k8, cNeed, q49c, crP_ok, crP_err, n1, n2, m1, m2, m3, m4, hac, panD, leav_nil, finD, tbBl_e, tb76c_e, zzK, seval]
                          exact ⟨_, AHeap.sub_refl _, hk _ ((ext3 _ _ _).grow c)⟩
end
end Go.Proofs.YtpagdhbmbnoddaaGreatDoor.Zz
