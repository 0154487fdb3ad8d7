/- Contracts: how an expression, a literal, a declaration is printed. -/
import Derived.Test.YtpagdhbmbnoddaaGreatDoorZR1
set_option linter.unnecessarySimpa false
namespace Go.Proofs.YtpagdhbmbnoddaaGreatDoor.Zz
noncomputable section
set_option linter.unusedVariables false
set_option linter.unusedSimpArgs false
set_option maxRecDepth 20000
def p23rp : Plan := ⟨⟨[], [], [], [], [], []⟩, [(12, [0, 1, 2, 3, 4, 5, 6, 7, 8]), (14, [0, 1, 4, 5, 2, 3, 6, 7, 8, 9]), (16, [0, 1, 2, 3, 4, 5, 6])], [], false⟩
/-- cupel/ast.expr (1 parameters, 0 captured) -/
def s23rp : Stm :=
 .seq (.ops [⟨.box (.t 0), (some 1), none, false⟩,
 ⟨.mov (.c (.str [])), (some 2), none, true⟩])
 (.seq (.seq (.ops [⟨.fieldAddr 0 (.t 1), (some 3), none, true⟩,
 ⟨.load none (.t 3), (some 4), none, false⟩])
 (.block 0 (.seq (.ops [⟨.bin .eql (.t 4) (.c (.int .i64 20)), (some 6), none, true⟩,
 ⟨.mov (.t 6), (some 5), none, true⟩])
 (.cond (.t 5)
 (.seq (.ops [⟨.fieldAddr 3 (.t 1), (some 7), none, true⟩,
 ⟨.load none (.t 7), (some 8), none, false⟩,
 ⟨.qcall (.f 44) [(.t 8), (.c (.int .i64 10))], (some 9), none, false⟩,
 ⟨.mov (.t 9), (some 2), none, true⟩])
 (.ret))
 (.seq (.seq (.ops [⟨.bin .eql (.t 4) (.c (.int .i64 21)), (some 11), none, true⟩,
 ⟨.mov (.t 11), (some 10), none, true⟩])
 (.cond (.t 10)
 (.skip)
 (.ops [⟨.bin .eql (.t 4) (.c (.int .i64 23)), (some 12), none, true⟩,
 ⟨.mov (.t 12), (some 10), none, true⟩])))
 (.cond (.t 10)
 (.seq (.ops [⟨.fieldAddr 2 (.t 1), (some 13), none, true⟩,
 ⟨.load none (.t 13), (some 14), none, false⟩,
 ⟨.mov (.t 14), (some 2), none, true⟩])
 (.ret))
 (.seq (.ops [⟨.bin .eql (.t 4) (.c (.int .i64 22)), (some 16), none, true⟩,
 ⟨.mov (.t 16), (some 15), none, true⟩])
 (.cond (.t 15)
 (.seq (.seq (.ops [⟨.fieldAddr 3 (.t 1), (some 17), none, true⟩,
 ⟨.load none (.t 17), (some 18), none, false⟩,
 ⟨.bin .eql (.t 18) (.c (.int .i64 0)), (some 19), none, true⟩])
 (.cond (.t 19)
 (.seq (.ops [⟨.mov (.c (.str [102, 97, 108, 115, 101])), (some 2), none, true⟩])
 (.ret))
 (.skip)))
 (.seq (.ops [⟨.mov (.c (.str [116, 114, 117, 101])), (some 2), none, true⟩])
 (.ret)))
 (.seq (.ops [⟨.bin .eql (.t 4) (.c (.int .i64 24)), (some 21), none, true⟩,
 ⟨.mov (.t 21), (some 20), none, true⟩])
 (.cond (.t 20)
 (.seq (.opsD [⟨.fieldAddr 2 (.t 1), (some 22), none, true⟩,
 ⟨.load none (.t 22), (some 23), none, false⟩,
 ⟨.bin .add (.t 23) (.c (.str [40])), (some 24), none, true⟩,
 ⟨.fieldAddr 4 (.t 1), (some 25), none, true⟩,
 ⟨.load none (.t 25), (some 26), none, false⟩,
 ⟨.qcall (.f 26) [(.t 26), (.c (.str [44, 32]))], (some 27), none, false⟩,
 ⟨.bin .add (.t 24) (.t 27), (some 28), none, true⟩,
 ⟨.bin .add (.t 28) (.c (.str [41])), (some 29), none, true⟩,
 ⟨.mov (.t 29), (some 2), none, true⟩])
 (.ret))
 (.seq (.ops [⟨.bin .eql (.t 4) (.c (.int .i64 27)), (some 31), none, true⟩,
 ⟨.mov (.t 31), (some 30), none, true⟩])
 (.cond (.t 30)
 (.seq (.opsD [⟨.fieldAddr 1 (.t 1), (some 32), none, true⟩,
 ⟨.load none (.t 32), (some 33), none, false⟩,
 ⟨.fieldAddr 4 (.t 1), (some 36), none, true⟩,
 ⟨.load none (.t 36), (some 37), none, false⟩,
 ⟨.qcall (.f 45) [(.t 33)], (some 34), none, false⟩,
 ⟨.bin .add (.t 34) (.c (.str [40])), (some 35), none, true⟩,
 ⟨.qcall (.f 26) [(.t 37), (.c (.str [44, 32]))], (some 38), none, false⟩,
 ⟨.bin .add (.t 35) (.t 38), (some 39), none, true⟩,
 ⟨.bin .add (.t 39) (.c (.str [41])), (some 40), none, true⟩,
 ⟨.mov (.t 40), (some 2), none, true⟩])
 (.ret))
 (.seq (.ops [⟨.bin .eql (.t 4) (.c (.int .i64 25)), (some 42), none, true⟩,
 ⟨.mov (.t 42), (some 41), none, true⟩])
 (.cond (.t 41)
 (.seq (.opsD [⟨.fieldAddr 2 (.t 1), (some 43), none, true⟩,
 ⟨.load none (.t 43), (some 44), none, false⟩,
 ⟨.fieldAddr 4 (.t 1), (some 45), none, true⟩,
 ⟨.load none (.t 45), (some 46), none, false⟩,
 ⟨.qcall (.f 26) [(.t 46), (.c (.str []))], (some 47), none, false⟩,
 ⟨.bin .add (.t 44) (.t 47), (some 48), none, true⟩,
 ⟨.mov (.t 48), (some 2), none, true⟩])
 (.ret))
 (.skip)))))))))))))))
 (.seq (.ops [⟨.fieldAddr 4 (.t 1), (some 49), none, true⟩,
 ⟨.load none (.t 49), (some 50), none, false⟩,
 ⟨.fieldAddr 2 (.t 1), (some 51), none, true⟩,
 ⟨.load none (.t 51), (some 52), none, false⟩,
 ⟨.bin .add (.c (.str [32])) (.t 52), (some 53), none, true⟩,
 ⟨.bin .add (.t 53) (.c (.str [32])), (some 54), none, true⟩,
 ⟨.qcall (.f 26) [(.t 50), (.t 54)], (some 55), none, false⟩,
 ⟨.bin .add (.c (.str [40])) (.t 55), (some 56), none, true⟩,
 ⟨.bin .add (.t 56) (.c (.str [41])), (some 57), none, true⟩,
 ⟨.mov (.t 57), (some 2), none, true⟩])
 (.ret)))
theorem st23rp : stmOf Tryz.prog 23 p23rp = some (s23rp, [.tmp 2], 58) := by kernel_rfl

def p46rp : Plan := ⟨⟨[], [], [], [], [], []⟩, [], [], false⟩
/-- cupel/ast.literal (1 parameters, 0 captured) -/
def s46rp : Stm :=
 .seq (.ops [⟨.box (.t 0), (some 1), none, false⟩,
 ⟨.mov (.c (.str [])), (some 2), none, true⟩])
 (.seq (.seq (.ops [⟨.fieldAddr 0 (.t 1), (some 3), none, true⟩,
 ⟨.load none (.t 3), (some 4), none, false⟩,
 ⟨.bin .eql (.t 4) (.c (.int .i64 21)), (some 5), none, true⟩,
 ⟨.mov (.t 5), (some 6), none, true⟩,
 ⟨.fieldAddr 3 (.t 1), (some 7), (some (6, true)), true⟩,
 ⟨.load none (.t 7), (some 8), (some (6, true)), false⟩,
 ⟨.bin .lss (.t 8) (.c (.int .i64 0)), (some 9), (some (6, true)), true⟩,
 ⟨.pick (.t 6) (.t 9) (.c (.bool false)), (some 10), none, true⟩])
 (.cond (.t 10)
 (.seq (.ops [⟨.fieldAddr 2 (.t 1), (some 11), none, true⟩,
 ⟨.load none (.t 11), (some 12), none, false⟩,
 ⟨.bin .add (.c (.str [45])) (.t 12), (some 13), none, true⟩,
 ⟨.mov (.t 13), (some 2), none, true⟩])
 (.ret))
 (.skip)))
 (.seq (.seq (.ops [⟨.fieldAddr 0 (.t 1), (some 14), none, true⟩,
 ⟨.load none (.t 14), (some 15), none, false⟩,
 ⟨.bin .eql (.t 15) (.c (.int .i64 20)), (some 16), none, true⟩])
 (.cond (.t 16)
 (.seq (.ops [⟨.fieldAddr 3 (.t 1), (some 17), none, true⟩,
 ⟨.load none (.t 17), (some 18), none, false⟩,
 ⟨.qcall (.f 44) [(.t 18), (.c (.int .i64 10))], (some 19), none, false⟩,
 ⟨.mov (.t 19), (some 2), none, true⟩])
 (.ret))
 (.skip)))
 (.seq (.ops [⟨.load (some 5) (.t 1), (some 20), none, false⟩,
 ⟨.qcall (.f 12) [(.t 20)], (some 21), none, false⟩,
 ⟨.mov (.t 21), (some 2), none, true⟩])
 (.ret))))
theorem st46rp : stmOf Tryz.prog 46 p46rp = some (s46rp, [.tmp 2], 22) := by kernel_rfl

def p24rp : Plan := ⟨⟨[], [], [(15, 11), (17, 6), (18, 7), (18, 19)], [], [], []⟩, [(11, [0, 1, 2, 3, 4, 5, 6, 7]), (15, [0, 1, 2, 3, 4, 5, 9, 10, 11, 12, 6, 7, 8, 13, 14, 15, 16]), (17, [0, 1, 2, 3, 4, 5, 6, 7, 8, 9, 10]), (18, [0, 1, 2, 3, 4, 5, 6, 7, 11, 12, 16, 17, 18, 19, 20, 8, 9, 10, 13, 14, 15, 21, 22, 23])], [], false⟩
/-- cupel/ast.decl (1 parameters, 0 captured) -/
def s24rp : Stm :=
 .seq (.ops [⟨.box (.t 0), (some 1), none, false⟩,
 ⟨.mov (.c (.str [])), (some 2), none, true⟩])
 (.seq (.ops [⟨.fieldAddr 4 (.t 1), (some 7), none, true⟩,
 ⟨.load none (.t 7), (some 8), none, false⟩,
 ⟨.len .sl (.t 8), (some 9), none, false⟩,
 ⟨.bin .sub (.t 9) (.c (.int .i64 1)), (some 10), none, true⟩,
 ⟨.mov (.t 10), (some 3), none, true⟩])
 (.seq (.block 0 (.seq (.ops [⟨.fieldAddr 0 (.t 1), (some 12), none, true⟩,
 ⟨.load none (.t 12), (some 13), none, false⟩,
 ⟨.bin .eql (.t 13) (.c (.int .i64 1)), (some 14), none, true⟩,
 ⟨.mov (.t 14), (some 11), none, true⟩])
 (.cond (.t 11)
 (.seq (.ops [⟨.mov (.c (.str [])), (some 4), none, true⟩])
 (.seq (.seq (.ops [⟨.fieldAddr 4 (.t 1), (some 15), none, true⟩,
 ⟨.load none (.t 15), (some 16), none, false⟩,
 ⟨.len .sl (.t 16), (some 17), none, false⟩,
 ⟨.mov (.c (.int .i64 0)), (some 18), none, true⟩])
 (.block 1 (.loop (.seq (.ops [⟨.bin .lss (.t 18) (.t 17), (some 19), none, true⟩])
 (.seq (.cond (.t 19)
 (.skip)
 (.exit 1))
 (.seq (.block 2 (.seq (.ops [⟨.indexAddrS 5 (.t 16) (.t 18), (some 20), none, false⟩,
 ⟨.load (some 5) (.t 20), (some 21), none, false⟩,
 ⟨.alloc [(.int .i64 0), (.int .i64 0), (.str []), (.int .i64 0), .nilsl], (some 6), none, false⟩,
 ⟨.store 5 (.t 6) (.t 21), none, none, false⟩])
 (.ops [⟨.mov (.t 4), (some 22), none, true⟩,
 ⟨.load (some 5) (.t 6), (some 23), none, false⟩,
 ⟨.qcall (.f 12) [(.t 23)], (some 24), none, false⟩,
 ⟨.bin .add (.t 24) (.c (.str [10])), (some 25), none, true⟩,
 ⟨.bin .add (.t 22) (.t 25), (some 26), none, true⟩,
 ⟨.mov (.t 26), (some 4), none, true⟩])))
 (.ops [⟨.bin .add (.t 18) (.c (.int .i64 1)), (some 27), none, true⟩,
 ⟨.mov (.t 27), (some 18), none, true⟩])))))))
 (.seq (.ops [⟨.mov (.t 4), (some 28), none, true⟩,
 ⟨.mov (.t 28), (some 2), none, true⟩])
 (.ret))))
 (.seq (.ops [⟨.fieldAddr 0 (.t 1), (some 30), none, true⟩,
 ⟨.load none (.t 30), (some 31), none, false⟩,
 ⟨.bin .eql (.t 31) (.c (.int .i64 5)), (some 32), none, true⟩,
 ⟨.mov (.t 32), (some 29), none, true⟩])
 (.cond (.t 29)
 (.seq (.opsD [⟨.fieldAddr 2 (.t 1), (some 33), none, true⟩,
 ⟨.load none (.t 33), (some 34), none, false⟩,
 ⟨.bin .add (.t 34) (.c (.str [32])), (some 35), none, true⟩,
 ⟨.fieldAddr 1 (.t 1), (some 36), none, true⟩,
 ⟨.load none (.t 36), (some 37), none, false⟩,
 ⟨.qcall (.f 45) [(.t 37)], (some 38), none, false⟩,
 ⟨.bin .add (.t 35) (.t 38), (some 39), none, true⟩,
 ⟨.mov (.t 39), (some 2), none, true⟩])
 (.ret))
 (.seq (.ops [⟨.mov (.t 3), (some 41), none, true⟩,
 ⟨.bin .lss (.t 41) (.c (.int .i64 0)), (some 42), none, true⟩,
 ⟨.mov (.t 42), (some 40), none, true⟩])
 (.cond (.t 40)
 (.seq (.ops [⟨.mov (.c (.str [])), (some 2), none, true⟩])
 (.ret))
 (.seq (.ops [⟨.fieldAddr 0 (.t 1), (some 44), none, true⟩,
 ⟨.load none (.t 44), (some 45), none, false⟩,
 ⟨.bin .eql (.t 45) (.c (.int .i64 2)), (some 46), none, true⟩,
 ⟨.mov (.t 46), (some 43), none, true⟩])
 (.cond (.t 43)
 (.seq (.opsD [⟨.fieldAddr 2 (.t 1), (some 47), none, true⟩,
 ⟨.load none (.t 47), (some 48), none, false⟩,
 ⟨.bin .add (.c (.str [118, 97, 114, 32])) (.t 48), (some 49), none, true⟩,
 ⟨.bin .add (.t 49) (.c (.str [32])), (some 50), none, true⟩,
 ⟨.fieldAddr 1 (.t 1), (some 51), none, true⟩,
 ⟨.load none (.t 51), (some 52), none, false⟩,
 ⟨.fieldAddr 4 (.t 1), (some 56), none, true⟩,
 ⟨.load none (.t 56), (some 57), none, false⟩,
 ⟨.indexAddrS 5 (.t 57) (.c (.int .i64 0)), (some 58), none, false⟩,
 ⟨.load (some 5) (.t 58), (some 59), none, false⟩,
 ⟨.qcall (.f 45) [(.t 52)], (some 53), none, false⟩,
 ⟨.bin .add (.t 50) (.t 53), (some 54), none, true⟩,
 ⟨.bin .add (.t 54) (.c (.str [32, 61, 32])), (some 55), none, true⟩,
 ⟨.qcall (.f 46) [(.t 59)], (some 60), none, false⟩,
 ⟨.bin .add (.t 55) (.t 60), (some 61), none, true⟩,
 ⟨.bin .add (.t 61) (.c (.str [59])), (some 62), none, true⟩,
 ⟨.mov (.t 62), (some 2), none, true⟩])
 (.ret))
 (.seq (.ops [⟨.fieldAddr 0 (.t 1), (some 64), none, true⟩,
 ⟨.load none (.t 64), (some 65), none, false⟩,
 ⟨.bin .eql (.t 65) (.c (.int .i64 4)), (some 66), none, true⟩,
 ⟨.mov (.t 66), (some 63), none, true⟩])
 (.cond (.t 63)
 (.seq (.opsD [⟨.fieldAddr 2 (.t 1), (some 67), none, true⟩,
 ⟨.load none (.t 67), (some 68), none, false⟩,
 ⟨.bin .add (.c (.str [116, 101, 115, 116, 32])) (.t 68), (some 69), none, true⟩,
 ⟨.bin .add (.t 69) (.c (.str [32])), (some 70), none, true⟩,
 ⟨.fieldAddr 4 (.t 1), (some 71), none, true⟩,
 ⟨.load none (.t 71), (some 72), none, false⟩,
 ⟨.indexAddrS 5 (.t 72) (.c (.int .i64 0)), (some 73), none, false⟩,
 ⟨.load (some 5) (.t 73), (some 74), none, false⟩,
 ⟨.qcall (.f 12) [(.t 74)], (some 75), none, false⟩,
 ⟨.bin .add (.t 70) (.t 75), (some 76), none, true⟩,
 ⟨.mov (.t 76), (some 2), none, true⟩])
 (.ret))
 (.skip))))))))))))
 (.seq (.opsD [⟨.fieldAddr 2 (.t 1), (some 77), none, true⟩,
 ⟨.load none (.t 77), (some 78), none, false⟩,
 ⟨.bin .add (.c (.str [102, 117, 110, 99, 32])) (.t 78), (some 79), none, true⟩,
 ⟨.bin .add (.t 79) (.c (.str [40])), (some 80), none, true⟩,
 ⟨.fieldAddr 4 (.t 1), (some 81), none, true⟩,
 ⟨.load none (.t 81), (some 82), none, false⟩,
 ⟨.mov (.t 3), (some 83), none, true⟩,
 ⟨.slice (.sl 5) (.t 82) none (some (.t 83)) none, (some 84), none, false⟩,
 ⟨.fieldAddr 1 (.t 1), (some 88), none, true⟩,
 ⟨.load none (.t 88), (some 89), none, false⟩,
 ⟨.fieldAddr 4 (.t 1), (some 93), none, true⟩,
 ⟨.load none (.t 93), (some 94), none, false⟩,
 ⟨.mov (.t 3), (some 95), none, true⟩,
 ⟨.indexAddrS 5 (.t 94) (.t 95), (some 96), none, false⟩,
 ⟨.load (some 5) (.t 96), (some 97), none, false⟩,
 ⟨.qcall (.f 26) [(.t 84), (.c (.str [44, 32]))], (some 85), none, false⟩,
 ⟨.bin .add (.t 80) (.t 85), (some 86), none, true⟩,
 ⟨.bin .add (.t 86) (.c (.str [41, 32])), (some 87), none, true⟩,
 ⟨.qcall (.f 45) [(.t 89)], (some 90), none, false⟩,
 ⟨.bin .add (.t 87) (.t 90), (some 91), none, true⟩,
 ⟨.bin .add (.t 91) (.c (.str [32])), (some 92), none, true⟩,
 ⟨.qcall (.f 12) [(.t 97)], (some 98), none, false⟩,
 ⟨.bin .add (.t 92) (.t 98), (some 99), none, true⟩,
 ⟨.mov (.t 99), (some 2), none, true⟩])
 (.ret))))
theorem st24rp : stmOf Tryz.prog 24 p24rp = some (s24rp, [.tmp 2], 100) := by kernel_rfl

open Classical in
def qKids (f : Nat) : List D → Option D
  | [.sl ds, .str sep] => match decNs ds with
    | some l => if (∀ x ∈ l, x.cnt < f ∧ okN x) ∧ l.length ≤ 1000000000 ∧ (Lib.join (printFs l) sep).length ≤ 1000000000000 then some (.str (Lib.join (printFs l) sep)) else none
    | none => none
  | _ => none
theorem qKids_ok (f : Nat) (hT : (trP f).ok Tryz.prog) (args : List D) (d : D) (h : qKids f args = some d) : PCall Tryz.prog 26 args d := by
  unfold qKids at h
  split at h
  · split at h
    · rename_i l hl
      split at h
      · rename_i c
        cases h
        rw [decNs_some hl]
        exact kidsP_c f hT l _ c.1 c.2.1 c.2.2
      · cases h
    · cases h
  · cases h
theorem qKids_eq {f : Nat} {l : List Nd} {sep : List UInt8} (h1 : ∀ x ∈ l, x.cnt < f ∧ okN x) (h2 : l.length ≤ 1000000000) (h3 : (Lib.join (printFs l) sep).length ≤ 1000000000000) : qKids f [.sl (Nd.encs l), .str sep] = some (.str (Lib.join (printFs l) sep)) := by
  simp only [qKids, decNs_enc]; rw [if_pos ⟨h1, h2, h3⟩]
def trK (f : Nat) : Tab := (trP f).addQ 26 (qKids f)
theorem trK_ok {f : Nat} (hT : (trP f).ok Tryz.prog) : (trK f).ok Tryz.prog := Tab.addQ_ok hT fun args d h => qKids_ok f hT args d h
theorem trK_q (f : Nat) (g : FuncId) (args : List D) : (trK f).q g args = if g = 26 then qKids f args else (trP f).q g args := rfl
theorem trK_a (f : Nat) : (trK f).a = tr45.a := rfl
theorem trK_c (f : Nat) : (trK f).c = tr45.c := rfl
theorem okN_kids {k t : Int} {s : List UInt8} {m : Int} {l : List Nd} {f : Nat} (h : okN (.mk k t s m l)) (hn : (Nd.mk k t s m l).cnt < f + 1) {sep : List UInt8} (hJ : (Lib.join (printFs l) sep).length ≤ 1000000000000) : qKids f [.sl (Nd.encs l), .str sep] = some (.str (Lib.join (printFs l) sep)) := by
  refine qKids_eq (fun x hx => ⟨by have := cnt_kid (k := k) (t := t) (s := s) (n := m) hx; omega, okN_kid h hx ?_⟩) ?_ hJ
  · have := join_mem (sep := sep) (show printF x ∈ printFs l by rw [printFs_map]; exact List.mem_map.2 ⟨x, hx, rfl⟩)
    omega
  · have := h.1
    rw [cnt_mk] at this
    have := cnts_len l
    omega
theorem okN_num {k t : Int} {s : List UInt8} {m : Int} {l : List Nd} (h : okN (.mk k t s m l)) : -9223372036854775808 ≤ m ∧ m ≤ 9223372036854775807 ∧ s.length ≤ 1000000000000 := by
  have := h.2.2 (.mk k t s m l) (by rw [listF_mk]; exact List.mem_cons_self)
  exact this
set_option maxHeartbeats 1000000 in
theorem expr_c23 (f : Nat) (hT : (trP f).ok Tryz.prog) (n : Nd) (hn : n.cnt < f + 1) (hok : okN n) (hk : n.kind ≥ 20) : PCall Tryz.prog 23 [.agg n.enc] (.str (printF n)) := by
  refine PCall.run (trK_ok hT) st23rp (by simp) fun E => ?_
  have hTq := trK_q f
  have hPq := trP_q f
  have hTa := trK_a f
  have hTc := trK_c f
  generalize trK f = TT at hTq hTa hTc ⊢
  obtain ⟨k, t, s, m, l⟩ := n
  have hk : k ≥ 20 := hk
  have hlen := hok.2.1
  have hki : ∀ sep, (Lib.join (printFs l) sep).length ≤ 1000000000000 → qKids f [.sl (Nd.encs l), .str sep] = some (.str (Lib.join (printFs l) sep)) := fun sep hJ => okN_kids hok hn hJ
  obtain ⟨m0, m1, hs⟩ := okN_num hok
  have hnum := q97n_eq m0 m1
  have h45 : q45p [.int .i64 t] = some (.str (typeN t)) := rfl
  have htn : (typeN t).length ≤ 5 := by unfold typeN; cases (t == 1) <;> cases (t == 2) <;> cases (t == 3) <;> decide
  rw [printF_mk] at hlen ⊢
  rw [enc_mk]
  unfold printW at hlen ⊢
  rw [if_pos hk] at hlen ⊢
  unfold exprW at hlen ⊢
  generalize printFs l = ps at hlen hki ⊢
  cases c1rp : (k == 20)
  case true => simp (config := {maxSteps := 1000000}) only [s23rp, c1rp, hnum, hTq, hPq, hTa, hTc, tr45_e, zzK, seval]
  cases c2rp : (k == 21)
  case true => simp (config := {maxSteps := 1000000}) only [s23rp, c1rp, c2rp, Bool.true_or, hTq, hPq, hTa, hTc, tr45_e, zzK, seval]
  cases c3rp : (k == 23)
  case true => simp (config := {maxSteps := 1000000}) only [s23rp, c1rp, c2rp, c3rp, Bool.false_or, hTq, hPq, hTa, hTc, tr45_e, zzK, seval]
  cases c4rp : (k == 22)
  case true =>
    cases cm : (m == 0)
    all_goals simp (config := {maxSteps := 1000000}) only [s23rp, c1rp, c2rp, c3rp, c4rp, cm, wFalse, wTrue, Bool.false_or, hTq, hPq, hTa, hTc, tr45_e, zzK, seval]
  simp only [c1rp, c2rp, c3rp, c4rp, Bool.false_or, cond_false] at hlen
  cases c5rp : (k == 24)
  case true =>
    simp only [c5rp, cond_true, List.length_append, List.length_cons, List.length_nil] at hlen
    have hj := hki [44, 32] (by omega)
    simp (config := {maxSteps := 1000000}) only [s23rp, c1rp, c2rp, c3rp, c4rp, c5rp, hj, Bool.false_or, hTq, hPq, hTa, hTc, tr45_e, zzK, seval]
    intros
    (try simp only [List.length_append, List.length_cons, List.length_nil])
    omega
  simp only [c5rp, cond_false] at hlen
  cases c6rp : (k == 27)
  case true =>
    simp only [c6rp, cond_true, List.length_append, List.length_cons, List.length_nil] at hlen
    have hj := hki [44, 32] (by omega)
    simp (config := {maxSteps := 1000000}) only [s23rp, c1rp, c2rp, c3rp, c4rp, c5rp, c6rp, hj, h45, Bool.false_or, hTq, hPq, hTa, hTc, tr45_e, zzK, seval]
    intros
    (try simp only [List.length_append, List.length_cons, List.length_nil])
    omega
  simp only [c6rp, cond_false] at hlen
  cases c7rp : (k == 25)
  case true =>
    simp only [c7rp, cond_true, List.length_append, List.length_cons, List.length_nil] at hlen
    have hj := hki [] (by omega)
    simp (config := {maxSteps := 1000000}) only [s23rp, c1rp, c2rp, c3rp, c4rp, c5rp, c6rp, c7rp, hj, Bool.false_or, hTq, hPq, hTa, hTc, tr45_e, zzK, seval]
    intros
    (try simp only [List.length_append, List.length_cons, List.length_nil])
    omega
  simp only [c7rp, cond_false, List.length_append, List.length_cons, List.length_nil] at hlen
  have hj := hki (32 :: (s ++ [32])) (by omega)
  simp (config := {maxSteps := 1000000}) only [s23rp, c1rp, c2rp, c3rp, c4rp, c5rp, c6rp, c7rp, hj, Bool.false_or, hTq, hPq, hTa, hTc, tr45_e, zzK, seval]
  intros
  (try simp only [List.length_append, List.length_cons, List.length_nil])
  omega
open Classical in
def qLit (f : Nat) : List D → Option D
  | [.agg ds] => match decN ds with
    | some n => if n.cnt < f ∧ okN n then some (.str (litW n (printF n))) else none
    | none => none
  | _ => none
theorem qLit_eq {f : Nat} {n : Nd} (h : n.cnt < f) (h2 : okN n) : qLit f [.agg n.enc] = some (.str (litW n (printF n))) := by
  simp only [qLit, decN_enc]; rw [if_pos ⟨h, h2⟩]
theorem lit_c46 (f : Nat) (hT : (trP f).ok Tryz.prog) (n : Nd) (hn : n.cnt < f) (hok : okN n) : PCall Tryz.prog 46 [.agg n.enc] (.str (litW n (printF n))) := by
  refine PCall.run hT st46rp (by simp) fun E => ?_
  have hPq := trP_q f
  have hPa := trP_a f
  have hPc := trP_c f
  have h12 := q12f_eq hn hok
  generalize trP f = TT at hPq hPa hPc ⊢
  generalize printF n = p at h12 ⊢
  have hn5 := len_enc n
  have hpn := part_enc n
  obtain ⟨k, t, s, m, l⟩ := n
  obtain ⟨m0, m1, hs⟩ := okN_num hok
  have hnum := q97n_eq m0 m1
  rw [enc_mk] at *
  unfold litW
  cases c1rp : (k == 21)
  case true =>
    have c2rp : (k == 20) = false := by
      have : k = 21 := by simpa using c1rp
      subst this; rfl
    by_cases cm : m < 0
    · have g : (m < 0) = True := eq_true cm
      simp (config := {maxSteps := 1000000}) only [s46rp, c1rp, c2rp, g, hPq, hPa, hPc, tr45_e, zzK, seval]
      intros
      (try simp only [List.length_append, List.length_cons, List.length_nil])
      omega
    · have g : (m < 0) = False := eq_false cm
      simp (config := {maxSteps := 1000000}) only [s46rp, c1rp, c2rp, g, h12, hPq, hPa, hPc, tr45_e, zzK, seval]
  cases c2rp : (k == 20)
  case true => simp (config := {maxSteps := 1000000}) only [s46rp, c1rp, c2rp, hnum, hPq, hPa, hPc, tr45_e, zzK, seval]
  simp (config := {maxSteps := 1000000}) only [s46rp, c1rp, c2rp, h12, hPq, hPa, hPc, tr45_e, zzK, seval]
theorem qLit_ok (f : Nat) (hT : (trP f).ok Tryz.prog) (args : List D) (d : D) (h : qLit f args = some d) : PCall Tryz.prog 46 args d := by
  unfold qLit at h
  split at h
  · split at h
    · rename_i n hn
      split at h
      · rename_i c
        cases h
        rw [decN_some hn]
        exact lit_c46 f hT n c.1 c.2
      · cases h
    · cases h
  · cases h
def trL (f : Nat) : Tab := (trK f).addQ 46 (qLit f)
theorem trL_ok {f : Nat} (hT : (trP f).ok Tryz.prog) : (trL f).ok Tryz.prog := Tab.addQ_ok (trK_ok hT) fun args d h => qLit_ok f hT args d h
theorem trL_q (f : Nat) (g : FuncId) (args : List D) : (trL f).q g args = if g = 46 then qLit f args else (trK f).q g args := rfl
theorem trL_a (f : Nat) : (trL f).a = tr45.a := rfl
theorem trL_c (f : Nat) : (trL f).c = tr45.c := rfl
theorem encs_take (l : List Nd) (i : Nat) : (Nd.encs l).take i = Nd.encs (l.take i) := by rw [encs_map, encs_map, List.map_take]
theorem slice_encs (l : List Nd) (i : Nat) (h : i ≤ l.length) : sliceEv (.sl 5) (.sl (Nd.encs l)) none (some (.int .i64 (i : Int))) none = some (.sl (Nd.encs (l.take i))) := by
  have h1 : ∀ y ∈ Nd.encs l, y.length = 5 := fun y hy => by
    rw [encs_map] at hy
    obtain ⟨x, _, rfl⟩ := List.mem_map.1 hy
    exact len_enc x
  simp only [sliceEv, bounds, intOfD, len_encs]
  rw [if_pos h1, if_pos ⟨by omega, by omega, by omega⟩]
  simp [encs_take]
theorem linesW_take {ps : List (List UInt8)} {i : Nat} {p : List UInt8} (h : ps[i]? = some p) : linesW (ps.take (i + 1)) = linesW (ps.take i) ++ (p ++ [10]) := by
  rw [List.take_add_one, h]
  simp [linesW]
theorem linesW_le (ps : List (List UInt8)) (i : Nat) : (linesW (ps.take i)).length ≤ (linesW ps).length := by
  have : linesW ps = linesW (ps.take i) ++ linesW (ps.drop i) := by
    conv => lhs; rw [← List.take_append_drop i ps]
    simp only [linesW, List.map_append, List.flatten_append]
  rw [this, List.length_append]; omega
theorem linesW_mem {ps : List (List UInt8)} {x : List UInt8} (h : x ∈ ps) : x.length ≤ (linesW ps).length := by
  induction ps with
  | nil => cases h
  | cons y r ih =>
    have e : linesW (y :: r) = y ++ [10] ++ linesW r := by simp [linesW]
    rw [e, List.length_append, List.length_append]
    rcases List.mem_cons.1 h with e | e
    · subst e; omega
    · have := ih e; omega
theorem lit_len (y : Nd) : (printF y).length ≤ (litW y (printF y)).length := by
  obtain ⟨k, t, s, m, l⟩ := y
  unfold litW
  cases c : (k == 21 && decide (m < 0)) with
  | true =>
    have : k = 21 := by simp at c; exact c.1
    subst this
    have hm : m < 0 := by simp at c; exact c
    rw [printF_mk]
    simp [printW, exprW, hm]
  | false =>
    cases c2rp : (k == 20) with
    | true =>
      have : k = 20 := by simpa using c2rp
      subst this
      rw [printF_mk]
      simp [printW, exprW, c]
    | false => simp only [c, c2rp, cond_false]; exact Nat.le_refl _
set_option maxHeartbeats 1000000 in
theorem decl_c24 (f : Nat) (hT : (trP f).ok Tryz.prog) (n : Nd) (hn : n.cnt < f + 1) (hok : okN n) (hk : n.kind ≤ 5) : PCall Tryz.prog 24 [.agg n.enc] (.str (printF n)) := by
  refine PCall.run (trL_ok hT) st24rp (by simp) fun E => ?_
  have hTq := trL_q f
  have hKq := trK_q f
  have hPq := trP_q f
  have hTa := trL_a f
  have hTc := trL_c f
  generalize trL f = TT at hTq hTa hTc ⊢
  obtain ⟨k, t, s, m, l⟩ := n
  have hk : k ≤ 5 := hk
  have hlen := hok.2.1
  obtain ⟨m0, m1, hs⟩ := okN_num hok
  have h45 : q45p [.int .i64 t] = some (.str (typeN t)) := rfl
  have htn : (typeN t).length ≤ 5 := by unfold typeN; cases (t == 1) <;> cases (t == 2) <;> cases (t == 3) <;> decide
  have hcl := hok.1
  rw [cnt_mk] at hcl
  have hln := cnts_len l
  have hcn : ∀ x ∈ l, x.cnt < f := fun x hx => by have := cnt_kid (k := k) (t := t) (s := s) (n := m) hx; omega
  rw [printF_mk] at hlen ⊢
  rw [enc_mk]
  unfold printW at hlen ⊢
  rw [if_neg (by omega), if_pos hk] at hlen ⊢
  have wl : IntKind.i64.wrap ((l.length : Int) - 1) = (l.length : Int) - 1 := wrap_i64 (by omega) (by omega)
  unfold declW at hlen ⊢
  cases c1rp : (k == 1)
  case true =>
    simp only [c1rp, cond_true] at hlen ⊢
    simp (config := {maxSteps := 1000000}) only [s24rp, c1rp, wl, len_encs, hTq, hKq, hPq, hTa, hTc, tr45_e, zzK, seval]
    intro i1 _ _
    refine run_loop (X := Nat) (fun i => [(4, .str (linesW ((printFs l).take i))), (16, .sl (Nd.encs l)), (17, .int .i64 l.length), (18, .int .i64 i)]) (fun _ => .emp) (fun i => l.length - i) (fun i => i ≤ l.length) 0 (Nat.zero_le _) (by simp only [List.take_zero, linesW, List.map_nil, List.flatten_nil, zzK, seval]) (AHeap.emp_sub _) ?_
    intro i Q hi hQ
    by_cases ci : i < l.length
    · have g : ((i : Int) < (l.length : Int)) = True := eq_true (by omega)
      obtain ⟨x, hx⟩ : ∃ x, l[i]? = some x := ⟨_, List.getElem?_eq_getElem ci⟩
      have hxm := List.mem_of_getElem? hx
      have hac : ∀ (K : D → AHeap → Prop) (h : AHeap), askE 5 K h (Nd.encs l) (i : Int) = K (.eptr x.enc 0) h := fun K h => askE_encs hx
      have hpx := part_enc x
      have wi : IntKind.i64.wrap ((i : Int) + 1) = ((i + 1 : Nat) : Int) := wrap_succ (by omega)
      have hlx := linesW_mem (show printF x ∈ printFs l by rw [printFs_map]; exact List.mem_map.2 ⟨x, hxm, rfl⟩)
      have hq := q12f_eq (hcn x hxm) (okN_kid hok hxm (by omega))
      have hts := linesW_take (printFs_get hx)
      have hl1 := linesW_le (printFs l) i
      have hl2 := linesW_le (printFs l) (i + 1)
      have hx5 := len_enc x
      generalize linesW ((printFs l).take i) = w1 at *
      generalize printF x = px at *
      obtain ⟨xk, xt, xs, xm, xl⟩ := x
      rw [enc_mk] at *
      simp (config := {maxSteps := 1000000}) only [g, hac, hpx, wi, hq, hTq, hKq, hPq, hTa, hTc, tr45_e, zzK, seval]
      intro id
      refine ⟨by omega, by (try simp only [List.length_append, List.length_cons, List.length_nil]); omega, hQ (i + 1) _ _ (by omega) (by simp only [hts, zzK, seval]) (AHeap.emp_sub _) (by omega)⟩
    · have e0 : i = l.length := by omega
      subst e0
      have g : ((l.length : Int) < (l.length : Int)) = False := eq_false (by omega)
      have tk : (printFs l).take l.length = printFs l := List.take_of_length_le (by rw [printFs_len]; omega)
      simp (config := {maxSteps := 1000000}) only [g, tk, hTq, hKq, hPq, hTa, hTc, tr45_e, zzK, seval]
  simp only [c1rp, cond_false] at hlen ⊢
  cases c2rp : (k == 5)
  case true =>
    simp only [c2rp, cond_true] at hlen ⊢
    simp (config := {maxSteps := 1000000}) only [s24rp, c1rp, c2rp, wl, h45, len_encs, hTq, hKq, hPq, hTa, hTc, tr45_e, zzK, seval]
    intros
    (try simp only [List.length_append, List.length_cons, List.length_nil])
    omega
  simp only [c2rp, cond_false] at hlen ⊢
  cases l with
  | nil =>
    have g0 : ((-1 : Int) < 0) = True := eq_true (by omega)
    have w0 : IntKind.i64.wrap (-1) = -1 := by decide
    simp (config := {maxSteps := 1000000}) only [s24rp, c1rp, c2rp, g0, w0, encs_nil, List.length_nil, hTq, hKq, hPq, hTa, hTc, tr45_e, zzK, seval]
  | cons y r =>
    have hac : ∀ (K : D → AHeap → Prop) (h : AHeap), askE 5 K h (Nd.encs (y :: r)) 0 = K (.eptr y.enc 0) h := fun K h => askE_encs (l := y :: r) (i := 0) rfl
    have hpy := part_enc y
    have wr : IntKind.i64.wrap (((r.length + 1 : Nat) : Int) - 1) = (r.length : Int) := by rw [wrap_i64 (by rw [List.length_cons] at hln; omega) (by rw [List.length_cons] at hln; omega)]; omega
    have g0 : ((r.length : Int) < 0) = False := eq_false (by omega)
    simp only [printFs_cons, List.getD_cons_zero] at hlen ⊢
    cases c3rp : (k == 2)
    case true =>
      simp only [c3rp, cond_true] at hlen ⊢
      have hpl : (printF y).length ≤ 1000000000000 := by
        have := lit_len y
        simp only [List.length_append] at hlen
        omega
      have hq := qLit_eq (hcn y (by simp)) (okN_kid hok (by simp) hpl)
      generalize litW y (printF y) = p at *
      have hy5 := len_enc y
      obtain ⟨yk, yt, ys, ym, yl⟩ := y
      rw [encs_cons, enc_mk] at *
      simp (config := {maxSteps := 1000000}) only [s24rp, c1rp, c2rp, c3rp, wr, g0, hac, hpy, h45, hq, len_encs, List.length_cons, hTq, hKq, hPq, hTa, hTc, tr45_e, zzK, seval]
      intros
      simp only [List.length_append, List.length_cons, List.length_nil] at hlen ⊢
      omega
    simp only [c3rp, cond_false] at hlen ⊢
    cases c4rp : (k == 4)
    case true =>
      simp only [c4rp, cond_true] at hlen ⊢
      have hpl : (printF y).length ≤ 1000000000000 := by rw [List.length_append] at hlen; omega
      have hq := q12f_eq (hcn y (by simp)) (okN_kid hok (by simp) hpl)
      generalize printF y = p at *
      have hy5 := len_enc y
      obtain ⟨yk, yt, ys, ym, yl⟩ := y
      rw [encs_cons, enc_mk] at *
      simp (config := {maxSteps := 1000000}) only [s24rp, c1rp, c2rp, c3rp, c4rp, wr, g0, hac, hpy, h45, hq, len_encs, List.length_cons, hTq, hKq, hPq, hTa, hTc, tr45_e, zzK, seval]
      intros
      simp only [List.length_append, List.length_cons, List.length_nil] at hlen ⊢
      omega
    simp only [c4rp, cond_false] at hlen ⊢
    obtain ⟨z, hz⟩ : ∃ z, (y :: r)[r.length]? = some z := ⟨_, List.getElem?_eq_getElem (by simp)⟩
    have hacl : ∀ (K : D → AHeap → Prop) (h : AHeap), askE 5 K h (Nd.encs (y :: r)) (r.length : Int) = K (.eptr z.enc 0) h := fun K h => askE_encs hz
    have hpz := part_enc z
    have hzm : z ∈ y :: r := List.mem_of_getElem? hz
    have hsl := slice_encs (y :: r) r.length (by simp)
    have hdl : (printF y :: printFs r).dropLast = printFs ((y :: r).take r.length) := by
      rw [← printFs_cons, printFs_map, printFs_map, List.dropLast_eq_take, List.length_map, ← List.map_take]; rfl
    have hla : (printF y :: printFs r).getD ((printF y :: printFs r).length - 1) [] = printF z := by
      have : (printFs (y :: r))[r.length]? = some (printF z) := printFs_get hz
      rw [printFs_cons] at this
      rw [List.getD_eq_getElem?_getD, show (printF y :: printFs r).length - 1 = r.length by rw [List.length_cons, printFs_len]; omega, this]; rfl
    rw [hdl, hla] at hlen ⊢
    have hJ : (Lib.join (printFs ((y :: r).take r.length)) [44, 32]).length ≤ 1000000000000 := by simp only [List.length_append] at hlen; omega
    have hq1 : qKids f [.sl (Nd.encs ((y :: r).take r.length)), .str [44, 32]] = some (.str (Lib.join (printFs ((y :: r).take r.length)) [44, 32])) := by
      refine qKids_eq (fun x hx => ⟨hcn x (List.mem_of_mem_take hx), okN_kid hok (List.mem_of_mem_take hx) ?_⟩) ?_ hJ
      · have := join_mem (sep := [44, 32]) (show printF x ∈ printFs ((y :: r).take r.length) by rw [printFs_map]; exact List.mem_map.2 ⟨x, hx, rfl⟩)
        omega
      · rw [List.length_take, List.length_cons]; rw [List.length_cons] at hln; omega
    have hq2 := q12f_eq (hcn z hzm) (okN_kid hok hzm (by simp only [List.length_append] at hlen; omega))
    generalize printF z = p at *
    generalize Lib.join (printFs ((y :: r).take r.length)) [44, 32] = J at *
    have hz5 := len_enc z
    obtain ⟨zk, zt, zs, zm, zl⟩ := z
    rw [enc_mk] at *
    simp (config := {maxSteps := 1000000}) only [s24rp, c1rp, c2rp, c3rp, c4rp, wr, g0, hacl, hpz, hsl, h45, hq1, hq2, len_encs, List.length_cons, hTq, hKq, hPq, hTa, hTc, tr45_e, zzK, seval]
    intros
    simp only [List.length_append, List.length_cons, List.length_nil] at hlen ⊢
    omega
end
end Go.Proofs.YtpagdhbmbnoddaaGreatDoor.Zz
/- Contracts: how a tree is printed. -/
namespace Go.Proofs.YtpagdhbmbnoddaaGreatDoor.Zz
noncomputable section
set_option linter.unusedVariables false
set_option linter.unusedSimpArgs false
set_option maxRecDepth 20000
def p25rp : Plan := ⟨⟨[], [], [], [], [], []⟩, [], [], false⟩
/-- cupel/ast.Print$1 (1 parameters, 1 captured) -/
def s25rp : Stm :=
 .seq (.ops [⟨.mov (.c (.str [])), (some 3), none, true⟩])
 (.seq (.seq (.ops [⟨.mov (.t 0), (some 4), none, true⟩,
 ⟨.fieldAddr 4 (.t 1), (some 5), none, true⟩,
 ⟨.load none (.t 5), (some 6), none, false⟩,
 ⟨.len .sl (.t 6), (some 7), none, false⟩,
 ⟨.bin .geq (.t 4) (.t 7), (some 8), none, true⟩])
 (.cond (.t 8)
 (.seq (.ops [⟨.mov (.c (.str [])), (some 3), none, true⟩])
 (.ret))
 (.skip)))
 (.seq (.ops [⟨.fieldAddr 4 (.t 1), (some 9), none, true⟩,
 ⟨.load none (.t 9), (some 10), none, false⟩,
 ⟨.mov (.t 0), (some 11), none, true⟩,
 ⟨.indexAddrS 5 (.t 10) (.t 11), (some 12), none, false⟩,
 ⟨.load (some 5) (.t 12), (some 13), none, false⟩,
 ⟨.qcall (.f 12) [(.t 13)], (some 14), none, false⟩,
 ⟨.mov (.t 14), (some 3), none, true⟩])
 (.ret)))
theorem st25rp : stmOf Tryz.prog 25 p25rp = some (s25rp, [.tmp 3], 15) := by kernel_rfl

def p12rp : Plan := ⟨⟨[], [(12, 4), (14, 4), (16, 1), (16, 5), (18, 2), (21, 1), (21, 5), (23, 1), (25, 1), (27, 1)], [], [((12, 4), [(.t 1)]), ((14, 4), [(.t 1)])], [((12, 1), (.t 1)), ((14, 1), (.t 1))], []⟩, [(12, [0, 1, 2, 3, 4, 5, 6, 7]), (14, [0, 1, 2, 3, 4, 5, 6, 7])], [], false⟩
/-- cupel/ast.Print (1 parameters, 0 captured) -/
def s12rp : Stm :=
 .seq (.ops [⟨.box (.t 0), (some 1), none, false⟩,
 ⟨.mov (.c (.str [])), (some 2), none, true⟩])
 (.seq (.seq (.ops [⟨.fieldAddr 0 (.t 1), (some 5), none, true⟩,
 ⟨.load none (.t 5), (some 6), none, false⟩,
 ⟨.bin .geq (.t 6) (.c (.int .i64 20)), (some 7), none, true⟩])
 (.cond (.t 7)
 (.seq (.ops [⟨.load (some 5) (.t 1), (some 8), none, false⟩,
 ⟨.qcall (.f 23) [(.t 8)], (some 9), none, false⟩,
 ⟨.mov (.t 9), (some 2), none, true⟩])
 (.ret))
 (.skip)))
 (.seq (.seq (.ops [⟨.fieldAddr 0 (.t 1), (some 10), none, true⟩,
 ⟨.load none (.t 10), (some 11), none, false⟩,
 ⟨.bin .leq (.t 11) (.c (.int .i64 5)), (some 12), none, true⟩])
 (.cond (.t 12)
 (.seq (.ops [⟨.load (some 5) (.t 1), (some 13), none, false⟩,
 ⟨.qcall (.f 24) [(.t 13)], (some 14), none, false⟩,
 ⟨.mov (.t 14), (some 2), none, true⟩])
 (.ret))
 (.skip)))
 (.seq (.ops [⟨.mkFunc (.func 25) [] [(.t 1)], (some 15), none, true⟩,
 ⟨.mov (.t 15), (some 3), none, true⟩])
 (.seq (.seq (.ops [⟨.fieldAddr 0 (.t 1), (some 16), none, true⟩,
 ⟨.load none (.t 16), (some 17), none, false⟩])
 (.block 0 (.seq (.ops [⟨.bin .eql (.t 17) (.c (.int .i64 6)), (some 19), none, true⟩,
 ⟨.mov (.t 19), (some 18), none, true⟩])
 (.cond (.t 18)
 (.seq (.seq (.ops [⟨.fieldAddr 4 (.t 1), (some 20), none, true⟩,
 ⟨.load none (.t 20), (some 21), none, false⟩,
 ⟨.len .sl (.t 21), (some 22), none, false⟩,
 ⟨.bin .eql (.t 22) (.c (.int .i64 0)), (some 23), none, true⟩])
 (.cond (.t 23)
 (.seq (.ops [⟨.mov (.c (.str [123, 32, 125])), (some 2), none, true⟩])
 (.ret))
 (.skip)))
 (.seq (.ops [⟨.fieldAddr 4 (.t 1), (some 24), none, true⟩,
 ⟨.load none (.t 24), (some 25), none, false⟩,
 ⟨.qcall (.f 26) [(.t 25), (.c (.str [32]))], (some 26), none, false⟩,
 ⟨.bin .add (.c (.str [123, 32])) (.t 26), (some 27), none, true⟩,
 ⟨.bin .add (.t 27) (.c (.str [32, 125])), (some 28), none, true⟩,
 ⟨.mov (.t 28), (some 2), none, true⟩])
 (.ret)))
 (.seq (.ops [⟨.bin .eql (.t 17) (.c (.int .i64 7)), (some 30), none, true⟩,
 ⟨.mov (.t 30), (some 29), none, true⟩])
 (.cond (.t 29)
 (.seq (.opsD [⟨.fieldAddr 2 (.t 1), (some 31), none, true⟩,
 ⟨.loadOf none (.t 31) (.t 1), (some 32), none, false⟩,
 ⟨.bin .add (.t 32) (.c (.str [32, 58, 61, 32])), (some 33), none, true⟩,
 ⟨.mov (.t 3), (some 34), none, true⟩,
 ⟨.callNe (.t 34) [(.c (.int .i64 0))] [(.t 1)], (some 35), none, false⟩,
 ⟨.bin .add (.t 33) (.t 35), (some 36), none, true⟩,
 ⟨.bin .add (.t 36) (.c (.str [59])), (some 37), none, true⟩,
 ⟨.mov (.t 37), (some 2), none, true⟩])
 (.ret))
 (.seq (.ops [⟨.bin .eql (.t 17) (.c (.int .i64 8)), (some 39), none, true⟩,
 ⟨.mov (.t 39), (some 38), none, true⟩])
 (.cond (.t 38)
 (.seq (.opsD [⟨.fieldAddr 2 (.t 1), (some 40), none, true⟩,
 ⟨.loadOf none (.t 40) (.t 1), (some 41), none, false⟩,
 ⟨.bin .add (.t 41) (.c (.str [32, 61, 32])), (some 42), none, true⟩,
 ⟨.mov (.t 3), (some 43), none, true⟩,
 ⟨.callNe (.t 43) [(.c (.int .i64 0))] [(.t 1)], (some 44), none, false⟩,
 ⟨.bin .add (.t 42) (.t 44), (some 45), none, true⟩,
 ⟨.bin .add (.t 45) (.c (.str [59])), (some 46), none, true⟩,
 ⟨.mov (.t 46), (some 2), none, true⟩])
 (.ret))
 (.seq (.ops [⟨.bin .eql (.t 17) (.c (.int .i64 9)), (some 48), none, true⟩,
 ⟨.mov (.t 48), (some 47), none, true⟩])
 (.cond (.t 47)
 (.seq (.ops [⟨.mov (.t 3), (some 49), none, true⟩,
 ⟨.call (.t 49) [(.c (.int .i64 0))], (some 50), none, false⟩,
 ⟨.bin .add (.c (.str [105, 102, 32])) (.t 50), (some 51), none, true⟩,
 ⟨.bin .add (.t 51) (.c (.str [32])), (some 52), none, true⟩,
 ⟨.mov (.t 3), (some 53), none, true⟩,
 ⟨.call (.t 53) [(.c (.int .i64 1))], (some 54), none, false⟩,
 ⟨.bin .add (.t 52) (.t 54), (some 55), none, true⟩,
 ⟨.mov (.t 55), (some 4), none, true⟩])
 (.seq (.seq (.ops [⟨.fieldAddr 4 (.t 1), (some 56), none, true⟩,
 ⟨.load none (.t 56), (some 57), none, false⟩,
 ⟨.len .sl (.t 57), (some 58), none, false⟩,
 ⟨.bin .gtr (.t 58) (.c (.int .i64 2)), (some 59), none, true⟩])
 (.cond (.t 59)
 (.ops [⟨.mov (.t 4), (some 60), none, true⟩,
 ⟨.mov (.t 3), (some 61), none, true⟩,
 ⟨.call (.t 61) [(.c (.int .i64 2))], (some 62), none, false⟩,
 ⟨.bin .add (.c (.str [32, 101, 108, 115, 101, 32])) (.t 62), (some 63), none, true⟩,
 ⟨.bin .add (.t 60) (.t 63), (some 64), none, true⟩,
 ⟨.mov (.t 64), (some 4), none, true⟩])
 (.skip)))
 (.seq (.ops [⟨.mov (.t 4), (some 65), none, true⟩,
 ⟨.mov (.t 65), (some 2), none, true⟩])
 (.ret))))
 (.seq (.ops [⟨.bin .eql (.t 17) (.c (.int .i64 10)), (some 67), none, true⟩,
 ⟨.mov (.t 67), (some 66), none, true⟩])
 (.cond (.t 66)
 (.seq (.ops [⟨.mov (.t 3), (some 68), none, true⟩,
 ⟨.call (.t 68) [(.c (.int .i64 0))], (some 69), none, false⟩,
 ⟨.bin .add (.c (.str [102, 111, 114, 32])) (.t 69), (some 70), none, true⟩,
 ⟨.bin .add (.t 70) (.c (.str [32])), (some 71), none, true⟩,
 ⟨.mov (.t 3), (some 72), none, true⟩,
 ⟨.call (.t 72) [(.c (.int .i64 1))], (some 73), none, false⟩,
 ⟨.bin .add (.t 71) (.t 73), (some 74), none, true⟩,
 ⟨.mov (.t 74), (some 2), none, true⟩])
 (.ret))
 (.seq (.ops [⟨.bin .eql (.t 17) (.c (.int .i64 11)), (some 76), none, true⟩,
 ⟨.mov (.t 76), (some 75), none, true⟩])
 (.cond (.t 75)
 (.seq (.ops [⟨.mov (.t 3), (some 77), none, true⟩,
 ⟨.call (.t 77) [(.c (.int .i64 0))], (some 78), none, false⟩,
 ⟨.bin .add (.c (.str [114, 101, 116, 117, 114, 110, 32])) (.t 78), (some 79), none, true⟩,
 ⟨.bin .add (.t 79) (.c (.str [59])), (some 80), none, true⟩,
 ⟨.mov (.t 80), (some 2), none, true⟩])
 (.ret))
 (.seq (.ops [⟨.bin .eql (.t 17) (.c (.int .i64 12)), (some 82), none, true⟩,
 ⟨.mov (.t 82), (some 81), none, true⟩])
 (.cond (.t 81)
 (.seq (.ops [⟨.mov (.t 3), (some 83), none, true⟩,
 ⟨.call (.t 83) [(.c (.int .i64 0))], (some 84), none, false⟩,
 ⟨.bin .add (.c (.str [97, 115, 115, 101, 114, 116, 32])) (.t 84), (some 85), none, true⟩,
 ⟨.bin .add (.t 85) (.c (.str [59])), (some 86), none, true⟩,
 ⟨.mov (.t 86), (some 2), none, true⟩])
 (.ret))
 (.seq (.ops [⟨.bin .eql (.t 17) (.c (.int .i64 13)), (some 88), none, true⟩,
 ⟨.mov (.t 88), (some 87), none, true⟩])
 (.cond (.t 87)
 (.seq (.ops [⟨.mov (.t 3), (some 89), none, true⟩,
 ⟨.call (.t 89) [(.c (.int .i64 0))], (some 90), none, false⟩,
 ⟨.bin .add (.t 90) (.c (.str [59])), (some 91), none, true⟩,
 ⟨.mov (.t 91), (some 2), none, true⟩])
 (.ret))
 (.skip)))))))))))))))))))
 (.seq (.ops [⟨.mov (.c (.str [115, 107, 105, 112, 59])), (some 2), none, true⟩])
 (.ret))))))
theorem st12rp : stmOf Tryz.prog 12 p12rp = some (s12rp, [.tmp 2], 92) := by kernel_rfl

def Nd.kidsQ : Nd → List Nd
  | .mk _ _ _ _ l => l
def cKid (f : Nat) (args : List D) (h : AHeap) (K : D → AHeap → Prop) : Prop := ∃ (n : Nd) (id i : Nat), args = [.int .i64 (i : Int), .ptr id 1 0] ∧ h.f id = some (.cells n.enc) ∧ (∀ x, n.kidsQ[i]? = some x → x.cnt < f ∧ okN x) ∧ n.cnt ≤ 1000000000 ∧ K (.str ((printFs n.kidsQ).getD i [])) h
theorem cKid_mono (f : Nat) (args : List D) (h : AHeap) (K K' : D → AHeap → Prop) (hk : ∀ d h, K d h → K' d h) (c : cKid f args h K) : cKid f args h K' := by
  obtain ⟨n, id, i, a, b, c, d, e⟩ := c
  exact ⟨n, id, i, a, b, c, d, hk _ _ e⟩
theorem cKid_ok (f : Nat) (hT : (trP f).ok Tryz.prog) (args : List D) (h : AHeap) (K : D → AHeap → Prop) (c : cKid f args h K) : ACalls Tryz.prog 25 args h fun o h' => ∃ d, o = .ret d ∧ K d h' := by
  obtain ⟨n, id, i, rfl, hid, hk, hn, hK⟩ := c
  refine ACalls.of_U hT st25rp (by simp) ?_
  have hPq := trP_q f
  have hPa := trP_a f
  have hPc := trP_c f
  generalize trP f = TT at hPq hPa hPc ⊢
  obtain ⟨k, t, s, m, l⟩ := n
  simp only [Nd.kidsQ] at hk hK
  rw [cnt_mk] at hn
  have hln := cnts_len l
  rw [enc_mk] at hid
  by_cases c : i < l.length
  · have g : ((i : Int) ≥ (l.length : Int)) = False := eq_false (by omega)
    obtain ⟨x, hx⟩ : ∃ x, l[i]? = some x := ⟨_, List.getElem?_eq_getElem c⟩
    have hac : ∀ (K : D → AHeap → Prop) (h : AHeap), askE 5 K h (Nd.encs l) (i : Int) = K (.eptr x.enc 0) h := fun K h => askE_encs hx
    have hpx := part_enc x
    obtain ⟨h1, h2⟩ := hk x hx
    have hq := q12f_eq h1 h2
    have hg : (printFs l).getD i [] = printF x := by rw [List.getD_eq_getElem?_getD, printFs_get hx]; rfl
    rw [hg] at hK
    generalize printF x = p at *
    obtain ⟨xk, xt, xs, xm, xl⟩ := x
    rw [enc_mk] at *
    simp (config := {maxSteps := 1000000}) only [s25rp, hid, g, hac, hpx, hq, len_encs, retU_ret, hPq, hPa, hPc, tr45_e, zzK, seval]
    intro _
    exact ⟨h, AHeap.sub_refl _, hK⟩
  · have g : ((i : Int) ≥ (l.length : Int)) = True := eq_true (by omega)
    have hg : (printFs l).getD i [] = [] := by rw [List.getD_eq_getElem?_getD, List.getElem?_eq_none (by rw [printFs_len]; omega)]; rfl
    rw [hg] at hK
    simp (config := {maxSteps := 1000000}) only [s25rp, hid, g, len_encs, retU_ret, hPq, hPa, hPc, tr45_e, zzK, seval]
    intro _
    exact ⟨h, AHeap.sub_refl _, hK⟩
open Classical in
def qExprF (f : Nat) : List D → Option D
  | [.agg ds] => match decN ds with
    | some n => if n.cnt < f + 1 ∧ okN n ∧ n.kind ≥ 20 then some (.str (printF n)) else none
    | none => none
  | _ => none
theorem qExprF_ok (f : Nat) (hT : (trP f).ok Tryz.prog) (args : List D) (d : D) (h : qExprF f args = some d) : PCall Tryz.prog 23 args d := by
  unfold qExprF at h
  split at h
  · split at h
    · rename_i n hn
      split at h
      · rename_i c
        cases h
        rw [decN_some hn]
        exact expr_c23 f hT n c.1 c.2.1 c.2.2
      · cases h
    · cases h
  · cases h
theorem qExprF_eq {f : Nat} {n : Nd} (h1 : n.cnt < f + 1) (h2 : okN n) (h3 : n.kind ≥ 20) : qExprF f [.agg n.enc] = some (.str (printF n)) := by
  simp only [qExprF, decN_enc]; rw [if_pos ⟨h1, h2, h3⟩]
open Classical in
def qDeclF (f : Nat) : List D → Option D
  | [.agg ds] => match decN ds with
    | some n => if n.cnt < f + 1 ∧ okN n ∧ n.kind ≤ 5 then some (.str (printF n)) else none
    | none => none
  | _ => none
theorem qDeclF_ok (f : Nat) (hT : (trP f).ok Tryz.prog) (args : List D) (d : D) (h : qDeclF f args = some d) : PCall Tryz.prog 24 args d := by
  unfold qDeclF at h
  split at h
  · split at h
    · rename_i n hn
      split at h
      · rename_i c
        cases h
        rw [decN_some hn]
        exact decl_c24 f hT n c.1 c.2.1 c.2.2
      · cases h
    · cases h
  · cases h
theorem qDeclF_eq {f : Nat} {n : Nd} (h1 : n.cnt < f + 1) (h2 : okN n) (h3 : n.kind ≤ 5) : qDeclF f [.agg n.enc] = some (.str (printF n)) := by
  simp only [qDeclF, decN_enc]; rw [if_pos ⟨h1, h2, h3⟩]
def trQ (f : Nat) : Tab := (((trK f).addQ 23 (qExprF f)).addQ 24 (qDeclF f)).addW 25 (cKid f) (cKid_mono f)
theorem trQ_ok {f : Nat} (hT : (trP f).ok Tryz.prog) : (trQ f).ok Tryz.prog :=
  Tab.addW_ok (Tab.addQ_ok (Tab.addQ_ok (trK_ok hT) fun args d h => qExprF_ok f hT args d h) fun args d h => qDeclF_ok f hT args d h) fun args h K c => cKid_ok f hT args h K c
theorem trQ_q (f : Nat) (g : FuncId) (args : List D) : (trQ f).q g args = if g = 24 then qDeclF f args else if g = 23 then qExprF f args else (trK f).q g args := rfl
theorem trQ_a (f : Nat) : (trQ f).a = tr45.a := rfl
theorem trQ_c (f : Nat) (g : FuncId) (args : List D) (h : AHeap) (K E : D → AHeap → Prop) : (trQ f).c g args h K E = if g = 25 then cKid f args h K else tr45.c g args h K E := rfl
set_option maxHeartbeats 2000000 in
theorem print_step (f : Nat) (hT : (trP f).ok Tryz.prog) (n : Nd) (hn : n.cnt < f + 1) (hok : okN n) : PCall Tryz.prog 12 [.agg n.enc] (.str (printF n)) := by
  refine PCall.run (trQ_ok hT) st12rp (by simp) fun E => ?_
  have hTq := trQ_q f
  have hKq := trK_q f
  have hPq := trP_q f
  have hTa := trQ_a f
  have hTc := trQ_c f
  generalize trQ f = TT at hTq hTa hTc ⊢
  by_cases k1 : n.kind ≥ 20
  · have hq := qExprF_eq hn hok k1
    generalize printF n = p at hq ⊢
    have hn5 := len_enc n
    have hpn := part_enc n
    obtain ⟨k, t, s, m, l⟩ := n
    have g : (k ≥ 20) = True := eq_true k1
    rw [enc_mk] at *
    simp (config := {maxSteps := 1000000}) only [s12rp, g, hq, hTq, hKq, hPq, hTa, hTc, tr45_e, zzK, seval]
  by_cases k2 : n.kind ≤ 5
  · have hq := qDeclF_eq hn hok k2
    generalize printF n = p at hq ⊢
    obtain ⟨k, t, s, m, l⟩ := n
    have g1 : (k ≥ 20) = False := eq_false k1
    have g2 : (k ≤ 5) = True := eq_true k2
    rw [enc_mk] at *
    simp (config := {maxSteps := 1000000}) only [s12rp, g1, g2, hq, hTq, hKq, hPq, hTa, hTc, tr45_e, zzK, seval]
  obtain ⟨k, t, s, m, l⟩ := n
  have g1 : (k ≥ 20) = False := eq_false k1
  have g2 : (k ≤ 5) = False := eq_false k2
  have hlen := hok.2.1
  obtain ⟨m0, m1, hs⟩ := okN_num hok
  have hcn : ∀ x ∈ l, x.cnt < f := fun x hx => by have := cnt_kid (k := k) (t := t) (s := s) (n := m) hx; omega
  have hkid : ∀ i : Nat, ((printFs l).getD i []).length ≤ 1000000000000 → ∀ x, (Nd.mk k t s m l).kidsQ[i]? = some x → x.cnt < f ∧ okN x := fun i hi x hx => by
    have hx' : l[i]? = some x := hx
    refine ⟨hcn x (List.mem_of_getElem? hx'), okN_kid hok (List.mem_of_getElem? hx') ?_⟩
    rw [List.getD_eq_getElem?_getD, printFs_get hx'] at hi
    exact hi
  have hpl := printFs_len l
  rw [printF_mk] at hlen ⊢
  rw [enc_mk]
  unfold printW at hlen ⊢
  have k1' : ¬ k ≥ 20 := k1
  have k2' : ¬ k ≤ 5 := k2
  rw [if_neg k1', if_neg k2'] at hlen ⊢
  unfold stmtW at hlen ⊢
  cases c6rp : (k == 6)
  case true =>
    simp only [c6rp, cond_true] at hlen ⊢
    cases l with
    | nil =>
      rw [printFs_nil] at *
      simp (config := {maxSteps := 1000000}) only [s12rp, g1, g2, c6rp, encs_nil, hTq, hKq, hPq, hTa, hTc, tr45_e, zzK, seval]
    | cons y r =>
      rw [printFs_cons] at *
      rw [if_neg (by simp)] at hlen ⊢
      rw [← printFs_cons] at *
      have hj := okN_kids (sep := [32]) hok hn (by simp only [List.length_append] at hlen; omega)
      have g0 : (((r.length + 1 : Nat) : Int) == 0) = false := by simp; omega
      simp (config := {maxSteps := 1000000}) only [s12rp, g1, g2, c6rp, g0, hj, len_encs, List.length_cons, hTq, hKq, hPq, hTa, hTc, tr45_e, zzK, seval]
      intros
      simp only [List.length_append, List.length_cons, List.length_nil] at hlen ⊢
      omega
  simp only [c6rp, cond_false] at hlen ⊢
  cases c7rp : (k == 7)
  case true =>
    simp only [c7rp, cond_true] at hlen ⊢
    have h0 := hkid 0 (by simp only [List.length_append] at hlen; omega)
    simp (config := {maxSteps := 1000000}) only [s12rp, g1, g2, c6rp, c7rp, len_encs, hTq, hKq, hPq, hTa, hTc, Nd.kidsQ, tr45_e, zzK, seval]
    intro i1
    refine ⟨by omega, .mk k t s m l, i1, 0, rfl, by simp [enc_mk], h0, hok.1, by simp, ?_⟩
    simp (config := {maxSteps := 1000000}) only [g1, g2, c6rp, c7rp, len_encs, hTq, hKq, hPq, hTa, hTc, Nd.kidsQ, tr45_e, zzK, seval]
    simp only [List.length_append, List.length_cons, List.length_nil] at hlen ⊢
    omega
  simp only [c7rp, cond_false] at hlen ⊢
  cases c8rp : (k == 8)
  case true =>
    simp only [c8rp, cond_true] at hlen ⊢
    have h0 := hkid 0 (by simp only [List.length_append] at hlen; omega)
    simp (config := {maxSteps := 1000000}) only [s12rp, g1, g2, c6rp, c7rp, c8rp, len_encs, hTq, hKq, hPq, hTa, hTc, Nd.kidsQ, tr45_e, zzK, seval]
    intro i1
    refine ⟨by omega, .mk k t s m l, i1, 0, rfl, by simp [enc_mk], h0, hok.1, by simp, ?_⟩
    simp (config := {maxSteps := 1000000}) only [g1, g2, c6rp, c7rp, c8rp, len_encs, hTq, hKq, hPq, hTa, hTc, Nd.kidsQ, tr45_e, zzK, seval]
    simp only [List.length_append, List.length_cons, List.length_nil] at hlen ⊢
    omega
  simp only [c8rp, cond_false] at hlen ⊢
  cases c9rp : (k == 9)
  case true =>
    simp only [c9rp, cond_true] at hlen ⊢
    rw [hpl] at hlen ⊢
    by_cases c : 2 < l.length
    · have gc : ((l.length : Int) > 2) = True := eq_true (by omega)
      rw [if_pos c] at hlen ⊢
      have h0 := hkid 0 (by simp only [List.length_append] at hlen; omega)
      have h1 := hkid 1 (by simp only [List.length_append] at hlen; omega)
      have h2 := hkid 2 (by simp only [List.length_append] at hlen; omega)
      simp (config := {maxSteps := 1000000}) only [s12rp, gc, g1, g2, c6rp, c7rp, c8rp, c9rp, len_encs, hTq, hKq, hPq, hTa, hTc, Nd.kidsQ, tr45_e, zzK, seval]
      intro i1
      refine ⟨.mk k t s m l, i1, 0, rfl, by simp [enc_mk], h0, hok.1, ?_⟩
      simp (config := {maxSteps := 1000000}) only [gc, g1, g2, c6rp, c7rp, c8rp, c9rp, len_encs, hTq, hKq, hPq, hTa, hTc, Nd.kidsQ, tr45_e, zzK, seval]
      refine ⟨by simp only [List.length_append] at hlen; omega, by simp only [List.length_append, List.length_cons, List.length_nil] at hlen ⊢; omega, .mk k t s m l, i1, 1, rfl, by simp [enc_mk], h1, hok.1, ?_⟩
      simp (config := {maxSteps := 1000000}) only [gc, g1, g2, c6rp, c7rp, c8rp, c9rp, len_encs, hTq, hKq, hPq, hTa, hTc, Nd.kidsQ, tr45_e, zzK, seval]
      refine ⟨by simp only [List.length_append, List.length_cons, List.length_nil] at hlen ⊢; omega, fun _ => ⟨.mk k t s m l, i1, 2, rfl, by simp [enc_mk], h2, hok.1, ?_⟩⟩
      simp (config := {maxSteps := 1000000}) only [gc, g1, g2, c6rp, c7rp, c8rp, c9rp, len_encs, hTq, hKq, hPq, hTa, hTc, Nd.kidsQ, tr45_e, zzK, seval]
      simp only [List.length_append, List.length_cons, List.length_nil] at hlen ⊢
      omega
    · have gc : ((l.length : Int) > 2) = False := eq_false (by omega)
      rw [if_neg c] at hlen ⊢
      have h0 := hkid 0 (by simp only [List.length_append] at hlen; omega)
      have h1 := hkid 1 (by simp only [List.length_append] at hlen; omega)
      simp (config := {maxSteps := 1000000}) only [s12rp, gc, g1, g2, c6rp, c7rp, c8rp, c9rp, len_encs, hTq, hKq, hPq, hTa, hTc, Nd.kidsQ, tr45_e, zzK, seval]
      intro i1
      refine ⟨.mk k t s m l, i1, 0, rfl, by simp [enc_mk], h0, hok.1, ?_⟩
      simp (config := {maxSteps := 1000000}) only [gc, g1, g2, c6rp, c7rp, c8rp, c9rp, len_encs, hTq, hKq, hPq, hTa, hTc, Nd.kidsQ, tr45_e, zzK, seval]
      refine ⟨by simp only [List.length_append] at hlen; omega, by simp only [List.length_append, List.length_cons, List.length_nil] at hlen ⊢; omega, .mk k t s m l, i1, 1, rfl, by simp [enc_mk], h1, hok.1, ?_⟩
      simp (config := {maxSteps := 1000000}) only [gc, g1, g2, c6rp, c7rp, c8rp, c9rp, len_encs, hTq, hKq, hPq, hTa, hTc, Nd.kidsQ, tr45_e, zzK, seval]
      simp only [List.length_append, List.length_cons, List.length_nil] at hlen ⊢
      omega
  simp only [c9rp, cond_false] at hlen ⊢
  cases c10rp : (k == 10)
  case true =>
    simp only [c10rp, cond_true] at hlen ⊢
    have h0 := hkid 0 (by simp only [List.length_append] at hlen; omega)
    have h1 := hkid 1 (by simp only [List.length_append] at hlen; omega)
    simp (config := {maxSteps := 1000000}) only [s12rp, g1, g2, c6rp, c7rp, c8rp, c9rp, c10rp, len_encs, hTq, hKq, hPq, hTa, hTc, Nd.kidsQ, tr45_e, zzK, seval]
    intro i1
    refine ⟨.mk k t s m l, i1, 0, rfl, by simp [enc_mk], h0, hok.1, ?_⟩
    simp (config := {maxSteps := 1000000}) only [g1, g2, c6rp, c7rp, c8rp, c9rp, c10rp, len_encs, hTq, hKq, hPq, hTa, hTc, Nd.kidsQ, tr45_e, zzK, seval]
    refine ⟨by simp only [List.length_append] at hlen; omega, by simp only [List.length_append, List.length_cons, List.length_nil] at hlen ⊢; omega, .mk k t s m l, i1, 1, rfl, by simp [enc_mk], h1, hok.1, ?_⟩
    simp (config := {maxSteps := 1000000}) only [g1, g2, c6rp, c7rp, c8rp, c9rp, c10rp, len_encs, hTq, hKq, hPq, hTa, hTc, Nd.kidsQ, tr45_e, zzK, seval]
    simp only [List.length_append, List.length_cons, List.length_nil] at hlen ⊢
    omega
  simp only [c10rp, cond_false] at hlen ⊢
  cases c11rp : (k == 11)
  case true =>
    simp only [c11rp, cond_true] at hlen ⊢
    have h0 := hkid 0 (by simp only [List.length_append] at hlen; omega)
    simp (config := {maxSteps := 1000000}) only [s12rp, g1, g2, c6rp, c7rp, c8rp, c9rp, c10rp, c11rp, len_encs, hTq, hKq, hPq, hTa, hTc, Nd.kidsQ, tr45_e, zzK, seval]
    intro i1
    refine ⟨.mk k t s m l, i1, 0, rfl, by simp [enc_mk], h0, hok.1, ?_⟩
    simp (config := {maxSteps := 1000000}) only [g1, g2, c6rp, c7rp, c8rp, c9rp, c10rp, c11rp, len_encs, hTq, hKq, hPq, hTa, hTc, Nd.kidsQ, tr45_e, zzK, seval]
    simp only [List.length_append, List.length_cons, List.length_nil] at hlen ⊢
    omega
  simp only [c11rp, cond_false] at hlen ⊢
  cases c12rp : (k == 12)
  case true =>
    simp only [c12rp, cond_true] at hlen ⊢
    have h0 := hkid 0 (by simp only [List.length_append] at hlen; omega)
    simp (config := {maxSteps := 1000000}) only [s12rp, g1, g2, c6rp, c7rp, c8rp, c9rp, c10rp, c11rp, c12rp, len_encs, hTq, hKq, hPq, hTa, hTc, Nd.kidsQ, tr45_e, zzK, seval]
    intro i1
    refine ⟨.mk k t s m l, i1, 0, rfl, by simp [enc_mk], h0, hok.1, ?_⟩
    simp (config := {maxSteps := 1000000}) only [g1, g2, c6rp, c7rp, c8rp, c9rp, c10rp, c11rp, c12rp, len_encs, hTq, hKq, hPq, hTa, hTc, Nd.kidsQ, tr45_e, zzK, seval]
    simp only [List.length_append, List.length_cons, List.length_nil] at hlen ⊢
    omega
  simp only [c12rp, cond_false] at hlen ⊢
  cases c13rp : (k == 13)
  case true =>
    simp only [c13rp, cond_true] at hlen ⊢
    have h0 := hkid 0 (by simp only [List.length_append] at hlen; omega)
    simp (config := {maxSteps := 1000000}) only [s12rp, g1, g2, c6rp, c7rp, c8rp, c9rp, c10rp, c11rp, c12rp, c13rp, len_encs, hTq, hKq, hPq, hTa, hTc, Nd.kidsQ, tr45_e, zzK, seval]
    intro i1
    refine ⟨.mk k t s m l, i1, 0, rfl, by simp [enc_mk], h0, hok.1, ?_⟩
    simp (config := {maxSteps := 1000000}) only [g1, g2, c6rp, c7rp, c8rp, c9rp, c10rp, c11rp, c12rp, c13rp, len_encs, hTq, hKq, hPq, hTa, hTc, Nd.kidsQ, tr45_e, zzK, seval]
    simp only [List.length_append, List.length_cons, List.length_nil] at hlen ⊢
    omega
  simp only [c13rp, cond_false] at hlen ⊢
  simp (config := {maxSteps := 1000000}) only [s12rp, g1, g2, c6rp, c7rp, c8rp, c9rp, c10rp, c11rp, c12rp, c13rp, len_encs, hTq, hKq, hPq, hTa, hTc, Nd.kidsQ, tr45_e, zzK, seval]
theorem trP_ok : ∀ f, (trP f).ok Tryz.prog
  | 0 => Tab.addQ_ok tr45_ok fun args d h => by
    unfold q12f at h
    split at h
    · split at h
      · split at h
        · rename_i c; exact absurd c.1 (Nat.not_lt_zero _)
        · cases h
      · cases h
    · cases h
  | f + 1 => Tab.addQ_ok tr45_ok fun args d h => by
    unfold q12f at h
    split at h
    · split at h
      · rename_i n hn
        split at h
        · rename_i c
          cases h
          rw [decN_some hn]
          exact print_step f (trP_ok f) n c.1 c.2
        · cases h
      · cases h
    · cases h
theorem print_c (n : Nd) (hok : okN n) : PCall Tryz.prog 12 [.agg n.enc] (.str (printF n)) := print_step n.cnt (trP_ok n.cnt) n (Nat.lt_succ_self _) hok
open Classical in
def q12rp : List D → Option D
  | [.agg ds] => match decN ds with
    | some n => if okN n then some (.str (printF n)) else none
    | none => none
  | _ => none
theorem q12rp_ok (args : List D) (d : D) (h : q12rp args = some d) : PCall Tryz.prog 12 args d := by
  unfold q12rp at h
  split at h
  · split at h
    · rename_i n hn
      split at h
      · rename_i c
        cases h
        rw [decN_some hn]
        exact print_c n c
      · cases h
    · cases h
  · cases h
theorem q12rp_eq {n : Nd} (h : okN n) : q12rp [.agg n.enc] = some (.str (printF n)) := by
  simp only [q12rp, decN_enc]; rw [if_pos h]
end
end Go.Proofs.YtpagdhbmbnoddaaGreatDoor.Zz
