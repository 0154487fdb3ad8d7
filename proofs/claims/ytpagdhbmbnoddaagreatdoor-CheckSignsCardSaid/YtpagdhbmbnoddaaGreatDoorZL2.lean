/- Contracts: lex: bytes, runs of bytes, prefixes. -/
import Derived.Test.YtpagdhbmbnoddaaGreatDoorZC0
set_option linter.unnecessarySimpa false
set_option linter.unusedVariables false
set_option linter.unusedSimpArgs false
set_option maxRecDepth 20000
namespace Go.Proofs.YtpagdhbmbnoddaaGreatDoor.Zz
def p62 : Plan := ⟨⟨[], [], [], [], [], []⟩, [], [], false⟩
def s62 : Stm :=
 .seq (.ops [⟨.mov (.c (.bool false)), some 2, none, true⟩])
 (.seq (.ops [⟨.mov (.t 0), some 3, none, true⟩,
 ⟨.bin .geq (.t 3) (.c (.int .u8 97)), some 4, none, true⟩,
 ⟨.mov (.t 4), some 5, none, true⟩,
 ⟨.mov (.t 0), some 6, (some (5, true)), true⟩,
 ⟨.bin .leq (.t 6) (.c (.int .u8 122)), some 7, (some (5, true)), true⟩,
 ⟨.pick (.t 5) (.t 7) (.c (.bool false)), some 8, none, true⟩,
 ⟨.mov (.t 8), some 9, none, true⟩,
 ⟨.mov (.t 0), some 10, (some (9, false)), true⟩,
 ⟨.bin .geq (.t 10) (.c (.int .u8 65)), some 11, (some (9, false)), true⟩,
 ⟨.mov (.t 11), some 12, (some (9, false)), true⟩,
 ⟨.mov (.t 0), some 13, (some (12, true)), true⟩,
 ⟨.bin .leq (.t 13) (.c (.int .u8 90)), some 14, (some (12, true)), true⟩,
 ⟨.pick (.t 12) (.t 14) (.c (.bool false)), some 15, (some (9, false)), true⟩,
 ⟨.pick (.t 9) (.c (.bool true)) (.t 15), some 16, none, true⟩,
 ⟨.mov (.t 16), some 17, none, true⟩,
 ⟨.mov (.t 0), some 18, (some (17, false)), true⟩,
 ⟨.bin .eql (.t 18) (.c (.int .u8 95)), some 19, (some (17, false)), true⟩,
 ⟨.pick (.t 17) (.c (.bool true)) (.t 19), some 20, none, true⟩,
 ⟨.mov (.t 20), some 2, none, true⟩])
 (.ret))
theorem st62 : stmOf Tryz.prog 56 p62 = some (s62, [.tmp 2], 21) := by kernel_rfl
def p63 : Plan := ⟨⟨[], [], [], [], [], []⟩, [], [], false⟩
def s63 : Stm :=
 .seq (.ops [⟨.mov (.c (.bool false)), some 2, none, true⟩])
 (.seq (.ops [⟨.mov (.t 0), some 3, none, true⟩,
 ⟨.bin .geq (.t 3) (.c (.int .u8 48)), some 4, none, true⟩,
 ⟨.mov (.t 4), some 5, none, true⟩,
 ⟨.mov (.t 0), some 6, (some (5, true)), true⟩,
 ⟨.bin .leq (.t 6) (.c (.int .u8 57)), some 7, (some (5, true)), true⟩,
 ⟨.pick (.t 5) (.t 7) (.c (.bool false)), some 8, none, true⟩,
 ⟨.mov (.t 8), some 2, none, true⟩])
 (.ret))
theorem st63 : stmOf Tryz.prog 54 p63 = some (s63, [.tmp 2], 9) := by kernel_rfl
def p76 : Plan := ⟨⟨[], [], [], [], [], []⟩, [], [], false⟩
def s76 : Stm :=
 .seq (.ops [⟨.mov (.c (.bool false)), some 2, none, true⟩])
 (.seq (.ops [⟨.mov (.t 0), some 3, none, true⟩,
 ⟨.bin .neq (.t 3) (.c (.int .u8 10)), some 4, none, true⟩,
 ⟨.mov (.t 4), some 2, none, true⟩])
 (.ret))
theorem st76 : stmOf Tryz.prog 53 p76 = some (s76, [.tmp 2], 5) := by kernel_rfl
def p78 : Plan := ⟨⟨[], [], [], [], [], []⟩, [], [], false⟩
def s78 : Stm :=
 .seq (.ops [⟨.mov (.c (.bool false)), some 2, none, true⟩])
 (.seq (.ops [⟨.mov (.t 0), some 3, none, true⟩,
 ⟨.qcall (.f 56) [(.t 3)], some 4, none, false⟩,
 ⟨.mov (.t 4), some 5, none, true⟩,
 ⟨.mov (.t 0), some 6, (some (5, false)), true⟩,
 ⟨.qcall (.f 54) [(.t 6)], some 7, (some (5, false)), false⟩,
 ⟨.pick (.t 5) (.c (.bool true)) (.t 7), some 8, none, true⟩,
 ⟨.mov (.t 8), some 2, none, true⟩])
 (.ret))
theorem st78 : stmOf Tryz.prog 57 p78 = some (s78, [.tmp 2], 9) := by kernel_rfl
def p75 : Plan := ⟨⟨[], [], [], [], [], []⟩, [], [], false⟩
def s75 : Stm :=
 .seq (.ops [⟨.mov (.c (.int .i64 0)), some 6, none, true⟩])
 (.seq (.ops [⟨.mov (.c (.int .i64 0)), some 7, none, true⟩])
 (.seq (.block 0 (.loop (.seq (.seq (.ops [⟨.mov (.t 1), some 8, none, true⟩,
 ⟨.mov (.t 7), some 9, none, true⟩,
 ⟨.bin .add (.t 8) (.t 9), some 10, none, true⟩,
 ⟨.mov (.t 0), some 11, none, true⟩,
 ⟨.len .str (.t 11), some 12, none, false⟩,
 ⟨.bin .lss (.t 10) (.t 12), some 13, none, true⟩,
 ⟨.mov (.t 13), some 14, none, true⟩,
 ⟨.mov (.t 2), some 15, (some (14, true)), true⟩,
 ⟨.mov (.t 0), some 16, (some (14, true)), true⟩,
 ⟨.mov (.t 1), some 17, (some (14, true)), true⟩,
 ⟨.mov (.t 7), some 18, (some (14, true)), true⟩,
 ⟨.bin .add (.t 17) (.t 18), some 19, (some (14, true)), true⟩,
 ⟨.indexS (.t 16) (.t 19), some 20, (some (14, true)), true⟩,
 ⟨.qcall (.t 15) [(.t 20)], some 21, (some (14, true)), false⟩,
 ⟨.pick (.t 14) (.t 21) (.c (.bool false)), some 22, none, true⟩])
 (.cond (.t 22)
 (.skip)
 (.exit 0)))
 (.block 1 (.ops [⟨.mov (.t 7), some 23, none, true⟩,
 ⟨.bin .add (.t 23) (.c (.int .i64 1)), some 24, none, true⟩,
 ⟨.mov (.t 24), some 7, none, true⟩])))))
 (.seq (.ops [⟨.mov (.t 7), some 25, none, true⟩,
 ⟨.mov (.t 25), some 6, none, true⟩])
 (.ret))))
theorem st75 : stmOf Tryz.prog 52 p75 = some (s75, [.tmp 6], 26) := by kernel_rfl
def p84 : Plan := ⟨⟨[], [], [], [], [], []⟩, [], [], false⟩
def s84 : Stm :=
 .seq (.ops [⟨.mov (.c (.bool false)), some 4, none, true⟩])
 (.seq (.ops [⟨.mov (.t 0), some 5, none, true⟩,
 ⟨.len .str (.t 5), some 6, none, false⟩,
 ⟨.mov (.t 1), some 7, none, true⟩,
 ⟨.len .str (.t 7), some 8, none, false⟩,
 ⟨.bin .geq (.t 6) (.t 8), some 9, none, true⟩,
 ⟨.mov (.t 9), some 10, none, true⟩,
 ⟨.mov (.t 0), some 11, (some (10, true)), true⟩,
 ⟨.mov (.t 1), some 12, (some (10, true)), true⟩,
 ⟨.len .str (.t 12), some 13, (some (10, true)), false⟩,
 ⟨.slice .str (.t 11) none (some (.t 13)) none, some 14, (some (10, true)), false⟩,
 ⟨.mov (.t 1), some 15, (some (10, true)), true⟩,
 ⟨.bin .eql (.t 14) (.t 15), some 16, (some (10, true)), true⟩,
 ⟨.pick (.t 10) (.t 16) (.c (.bool false)), some 17, none, true⟩,
 ⟨.mov (.t 17), some 4, none, true⟩])
 (.ret))
theorem st84 : stmOf Tryz.prog 79 p84 = some (s84, [.tmp 4], 18) := by kernel_rfl
def p74 : Plan := ⟨⟨[], [], [], [], [], []⟩, [], [], false⟩
def s74 : Stm :=
 .seq (.ops [⟨.mov (.c (.bool false)), some 4, none, true⟩])
 (.seq (.ops [⟨.mov (.t 0), some 5, none, true⟩,
 ⟨.mov (.t 1), some 6, none, true⟩,
 ⟨.qcall (.f 79) [(.t 5), (.t 6)], some 7, none, false⟩,
 ⟨.mov (.t 7), some 4, none, true⟩])
 (.ret))
theorem st74 : stmOf Tryz.prog 51 p74 = some (s74, [.tmp 4], 8) := by kernel_rfl
def isDigit (n : Int) : Bool := decide (48 ≤ n) && decide (n ≤ 57)
def isLetter (n : Int) : Bool := (decide (97 ≤ n) && decide (n ≤ 122)) || (decide (65 ≤ n) && decide (n ≤ 90)) || n == 95
theorem digit_c (n : Int) : PCall Tryz.prog 54 [.int .u8 n] (.bool (isDigit n)) := by
  refine PCall.run (Tab.zero_ok _) st63 (by simp) fun E => ?_
  simp only [s63, zz, zzN, zzF, zzD, zzM, cond_true, cond_false, seval]
  simp only [isDigit, or_self]
  (repeat' split) <;> simp_all <;> omega
theorem letter_c (n : Int) : PCall Tryz.prog 56 [.int .u8 n] (.bool (isLetter n)) := by
  refine PCall.run (Tab.zero_ok _) st62 (by simp) fun E => ?_
  simp only [s62, zz, zzN, zzF, zzD, zzM, cond_true, cond_false, seval]
  simp only [isLetter, or_self]
  (repeat' split) <;> simp_all <;> omega
def q63 : List D → Option D
  | [.int .u8 n] => if True then some (.bool (isDigit n)) else none
  | _ => none
theorem q63_ok (args : List D) (d : D) (h : q63 args = some d) : PCall Tryz.prog 54 args d := by
  unfold q63 at h
  split at h
  · split at h
    · cases h; exact digit_c _
    · cases h
  · cases h
def q62 : List D → Option D
  | [.int .u8 n] => if True then some (.bool (isLetter n)) else none
  | _ => none
theorem q62_ok (args : List D) (d : D) (h : q62 args = some d) : PCall Tryz.prog 56 args d := by
  unfold q62 at h
  split at h
  · split at h
    · cases h; exact letter_c _
    · cases h
  · cases h
theorem notLf_c (n : Int) : PCall Tryz.prog 53 [.int .u8 n] (.bool (n != 10)) := by
  refine PCall.run (Tab.zero_ok _) st76 (by simp) fun E => ?_
  simp only [s76, zz, zzN, zzF, zzD, zzM, cond_true, cond_false, seval]
def q76 : List D → Option D
  | [.int .u8 n] => if True then some (.bool (n != 10)) else none
  | _ => none
theorem q76_ok (args : List D) (d : D) (h : q76 args = some d) : PCall Tryz.prog 53 args d := by
  unfold q76 at h
  split at h
  · split at h
    · cases h; exact notLf_c _
    · cases h
  · cases h
def tb63 : Tab := Tab.zero.addQ 54 q63
theorem tb63_q (g : FuncId) (args : List D) : tb63.q g args = if g = 54 then q63 args else Tab.zero.q g args := rfl
theorem tb63_a : tb63.a = Tab.zero.a := rfl
theorem tb63_c : tb63.c = Tab.zero.c := rfl
theorem tb63_ok : tb63.ok Tryz.prog := Tab.addQ_ok (Tab.zero_ok _) q63_ok
theorem tb63_e : type_of% (And.intro @tb63_q (And.intro @tb63_a @tb63_c)) := (And.intro @tb63_q (And.intro @tb63_a @tb63_c))
def tb62 : Tab := tb63.addQ 56 q62
theorem tb62_q (g : FuncId) (args : List D) : tb62.q g args = if g = 56 then q62 args else tb63.q g args := rfl
theorem tb62_a : tb62.a = tb63.a := rfl
theorem tb62_c : tb62.c = tb63.c := rfl
theorem tb62_ok : tb62.ok Tryz.prog := Tab.addQ_ok tb63_ok q62_ok
theorem tb62_e : type_of% (And.intro (And.intro @tb62_q (And.intro @tb62_a @tb62_c)) @tb63_e) := (And.intro (And.intro @tb62_q (And.intro @tb62_a @tb62_c)) @tb63_e)
theorem nameByte_c (n : Int) : PCall Tryz.prog 57 [.int .u8 n] (.bool (isLetter n || isDigit n)) := by
  refine PCall.run tb62_ok st78 (by simp) fun E => ?_
  simp only [s78, q62, q63, tb62_e, zz, zzN, zzF, zzD, zzM, cond_true, cond_false, seval]
  split <;> simp_all
def q78 : List D → Option D
  | [.int .u8 n] => if True then some (.bool (isLetter n || isDigit n)) else none
  | _ => none
theorem q78_ok (args : List D) (d : D) (h : q78 args = some d) : PCall Tryz.prog 57 args d := by
  unfold q78 at h
  split at h
  · split at h
    · cases h; exact nameByte_c _
    · cases h
  · cases h
def tb76 : Tab := tb62.addQ 53 q76
theorem tb76_q (g : FuncId) (args : List D) : tb76.q g args = if g = 53 then q76 args else tb62.q g args := rfl
theorem tb76_a : tb76.a = tb62.a := rfl
theorem tb76_c : tb76.c = tb62.c := rfl
theorem tb76_ok : tb76.ok Tryz.prog := Tab.addQ_ok tb62_ok q76_ok
theorem tb76_e : type_of% (And.intro (And.intro @tb76_q (And.intro @tb76_a @tb76_c)) @tb62_e) := (And.intro (And.intro @tb76_q (And.intro @tb76_a @tb76_c)) @tb62_e)
def tb78 : Tab := tb76.addQ 57 q78
theorem tb78_q (g : FuncId) (args : List D) : tb78.q g args = if g = 57 then q78 args else tb76.q g args := rfl
theorem tb78_a : tb78.a = tb76.a := rfl
theorem tb78_c : tb78.c = tb76.c := rfl
theorem tb78_ok : tb78.ok Tryz.prog := Tab.addQ_ok tb76_ok q78_ok
theorem tb78_e : type_of% (And.intro (And.intro @tb78_q (And.intro @tb78_a @tb78_c)) @tb76_e) := (And.intro (And.intro @tb78_q (And.intro @tb78_a @tb78_c)) @tb76_e)
def spn (p : Int → Bool) (l : List UInt8) : Nat := (l.takeWhile fun c => p (c.toNat : Int)).length
theorem spn_le (p : Int → Bool) (l : List UInt8) : spn p l ≤ l.length := by
  have := (List.takeWhile_sublist (l := l) fun c => p (c.toNat : Int)).length_le
  exact this
theorem spn_cons (p : Int → Bool) (c : UInt8) (l : List UInt8) : spn p (c :: l) = if p (c.toNat : Int) = true then spn p l + 1 else 0 := by
  simp only [spn, List.takeWhile_cons]
  split <;> simp
theorem drop_cons {s : List UInt8} {i : Nat} (h : i < s.length) : s.drop i = s.getD i 0 :: s.drop (i + 1) := by
  rw [List.drop_eq_getElem_cons h]
  simp [h]
theorem run_c {k : FuncId} {p : Int → Bool} (hq : ∀ n, tb78.q k [.int .u8 n] = some (.bool (p n))) (s : List UInt8) (a : Nat) (h1 : a ≤ 1000000) (h2 : s.length ≤ 1000000) :
    PCall Tryz.prog 52 [.str s, .int .i64 a, .func (.func k) [] []] (.int .i64 (spn p (s.drop a))) := by
  refine PCall.run tb78_ok st75 (by simp) fun E => ?_
  simp only [s75, zz, zzN, zzF, zzD, zzM, cond_true, cond_false, seval]
  refine run_loop (X := Nat) (fun n => [(0, .str s), (1, .int .i64 a), (2, .func (.func k) [] []), (7, .int .i64 n)]) (fun _ => AHeap.emp) (fun n => s.length - n)
    (fun n => (n = 0 ∨ a + n ≤ s.length) ∧ n + spn p (s.drop (a + n)) = spn p (s.drop a)) 0 (by simp) ?_ (AHeap.sub_refl _) ?_
  · simp only [zz, zzN, zzF, zzD, zzM, cond_true, cond_false, seval]
  · rintro n Q ⟨i1, i2⟩ hQ
    have w1 : IntKind.i64.wrap ((a : Int) + (n : Int)) = ((a + n : Nat) : Int) := wrap_add (by omega)
    have wi : IntKind.i64.wrap ((n : Int) + 1) = ((n + 1 : Nat) : Int) := wrap_succ (by omega)
    by_cases c1 : a + n < s.length
    · have g1 : (((a + n : Nat) : Int) < (s.length : Int)) = True := by simp; omega
      rw [drop_cons c1, spn_cons] at i2
      simp only [g1, w1, wi, hq, decide_true, zz, zzN, zzF, zzD, zzM, cond_true, cond_false, seval]
      intro _
      refine ⟨by omega, ?_⟩
      split
      · rename_i hp
        rw [if_pos hp] at i2
        refine hQ (n + 1) _ _ ⟨by omega, by rw [← Nat.add_assoc]; omega⟩ ?_ (AHeap.sub_refl _) (by omega)
        simp only [zz, zzN, zzF, zzD, zzM, cond_true, cond_false, seval]
      · rename_i hp
        rw [if_neg hp] at i2
        exact .inl (by omega)
    · have g1 : (((a + n : Nat) : Int) < (s.length : Int)) = False := by simp; omega
      have e : s.drop (a + n) = [] := List.drop_of_length_le (by omega)
      rw [e] at i2
      simp only [g1, w1, wi, hq, decide_false, zz, zzN, zzF, zzD, zzM, cond_true, cond_false, seval]
      intro _
      simp only [spn, List.takeWhile_nil, List.length_nil] at i2
      exact .inl (by simp only [spn]; omega)
def pre (s t : List UInt8) : Bool := s.take t.length == t
theorem hasPre_c (s t : List UInt8) : PCall Tryz.prog 79 [.str s, .str t] (.bool (pre s t)) := by
  refine PCall.run tb78_ok st84 (by simp) fun E => ?_
  simp only [s84, zz, zzN, zzF, zzD, zzM, cond_true, cond_false, seval]
  intro _ _
  split
  · exact fun _ => ⟨⟨by omega, by omega⟩, .inl rfl⟩
  · refine .inl ?_
    rename_i h
    have : s.take t.length = s := List.take_of_length_le (by omega)
    simp only [pre, this]
    symm
    apply beq_eq_false_iff_ne.2
    intro e
    rw [e] at h
    omega
def q84 : List D → Option D
  | [.str s, .str t] => if True then some (.bool (pre s t)) else none
  | _ => none
theorem q84_ok (args : List D) (d : D) (h : q84 args = some d) : PCall Tryz.prog 79 args d := by
  unfold q84 at h
  split at h
  · split at h
    · cases h; exact hasPre_c _ _
    · cases h
  · cases h
def tb84 : Tab := tb78.addQ 79 q84
theorem tb84_q (g : FuncId) (args : List D) : tb84.q g args = if g = 79 then q84 args else tb78.q g args := rfl
theorem tb84_a : tb84.a = tb78.a := rfl
theorem tb84_c : tb84.c = tb78.c := rfl
theorem tb84_ok : tb84.ok Tryz.prog := Tab.addQ_ok tb78_ok q84_ok
theorem tb84_e : type_of% (And.intro (And.intro @tb84_q (And.intro @tb84_a @tb84_c)) @tb78_e) := (And.intro (And.intro @tb84_q (And.intro @tb84_a @tb84_c)) @tb78_e)
theorem hasPrefix_c (s t : List UInt8) : PCall Tryz.prog 51 [.str s, .str t] (.bool (pre s t)) := by
  refine PCall.run tb84_ok st74 (by simp) fun E => ?_
  simp only [s74, q84, tb84_e, zz, zzN, zzF, zzD, zzM, cond_true, cond_false, seval]
def q74 : List D → Option D
  | [.str s, .str t] => if True then some (.bool (pre s t)) else none
  | _ => none
theorem q74_ok (args : List D) (d : D) (h : q74 args = some d) : PCall Tryz.prog 51 args d := by
  unfold q74 at h
  split at h
  · split at h
    · cases h; exact hasPrefix_c _ _
    · cases h
  · cases h
def tb74 : Tab := tb84.addQ 51 q74
theorem tb74_q (g : FuncId) (args : List D) : tb74.q g args = if g = 51 then q74 args else tb84.q g args := rfl
theorem tb74_a : tb74.a = tb84.a := rfl
theorem tb74_c : tb74.c = tb84.c := rfl
theorem tb74_ok : tb74.ok Tryz.prog := Tab.addQ_ok tb84_ok q74_ok
theorem tb74_e : type_of% (And.intro (And.intro @tb74_q (And.intro @tb74_a @tb74_c)) @tb84_e) := (And.intro (And.intro @tb74_q (And.intro @tb74_a @tb74_c)) @tb84_e)
def nameP (n : Int) : Bool := isLetter n || isDigit n
def isByteP : FuncId → Option (Int → Bool)
  | 54 => some isDigit
  | 53 => some fun n => n != 10
  | 57 => some nameP
  | _ => none
def q75 : List D → Option D
  | [.str s, .int .i64 a, .func (.func k) [] []] => match isByteP k with
    | some p => if 0 ≤ a ∧ a ≤ 1000000 ∧ s.length ≤ 1000000 then some (.int .i64 (spn p (s.drop a.toNat))) else none
    | none => none
  | _ => none
theorem isByteP_q {k : FuncId} {p : Int → Bool} (h : isByteP k = some p) (n : Int) : tb78.q k [.int .u8 n] = some (.bool (p n)) := by
  unfold isByteP at h
  split at h <;> cases h <;> simp [nameP, q63, q76, q78, tb78_q, tb76_q, tb62_q, tb63_q]
theorem q75_ok (args : List D) (d : D) (h : q75 args = some d) : PCall Tryz.prog 52 args d := by
  unfold q75 at h
  split at h
  · rename_i s a k
    split at h
    · rename_i p hp
      split at h
      · rename_i hc
        obtain ⟨n, rfl⟩ := Int.eq_ofNat_of_zero_le hc.1
        cases h
        exact run_c (isByteP_q hp) s n (by omega) hc.2.2
      · cases h
    · cases h
  · cases h
def tb75 : Tab := tb74.addQ 52 q75
theorem tb75_q (g : FuncId) (args : List D) : tb75.q g args = if g = 52 then q75 args else tb74.q g args := rfl
theorem tb75_a : tb75.a = tb74.a := rfl
theorem tb75_c : tb75.c = tb74.c := rfl
theorem tb75_ok : tb75.ok Tryz.prog := Tab.addQ_ok tb74_ok q75_ok
theorem tb75_e : type_of% (And.intro (And.intro @tb75_q (And.intro @tb75_a @tb75_c)) @tb74_e) := (And.intro (And.intro @tb75_q (And.intro @tb75_a @tb75_c)) @tb74_e)
end Go.Proofs.YtpagdhbmbnoddaaGreatDoor.Zz
namespace Go.Proofs.YtpagdhbmbnoddaaGreatDoor.Zz
def p80 : Plan := ⟨⟨[], [], [], [], [], []⟩, [], [], false⟩
def s80 : Stm :=
 .seq (.ops [⟨.mov (.c (.int .i64 0)), some 4, none, true⟩])
 (.seq (.seq (.ops [⟨.mov (.t 0), some 6, none, true⟩,
 ⟨.len .sl (.t 6), some 7, none, false⟩,
 ⟨.mov (.c (.int .i64 0)), some 8, none, true⟩])
 (.block 0 (.loop (.seq (.ops [⟨.bin .lss (.t 8) (.t 7), some 9, none, true⟩])
 (.seq (.cond (.t 9)
 (.skip)
 (.exit 0))
 (.seq (.block 1 (.seq (.ops [⟨.mov (.t 8), some 10, none, true⟩,
 ⟨.mov (.t 10), some 5, none, true⟩])
 (.seq (.ops [⟨.mov (.t 1), some 11, none, true⟩,
 ⟨.mov (.t 0), some 12, none, true⟩,
 ⟨.mov (.t 5), some 13, none, true⟩,
 ⟨.indexAddrS 1 (.t 12) (.t 13), some 14, none, false⟩,
 ⟨.load none (.t 14), some 15, none, false⟩,
 ⟨.bin .eql (.t 11) (.t 15), some 16, none, true⟩])
 (.cond (.t 16)
 (.seq (.ops [⟨.mov (.t 5), some 17, none, true⟩,
 ⟨.mov (.t 17), some 4, none, true⟩])
 (.ret))
 (.skip)))))
 (.ops [⟨.bin .add (.t 8) (.c (.int .i64 1)), some 18, none, true⟩,
 ⟨.mov (.t 18), some 8, none, true⟩])))))))
 (.seq (.ops [⟨.mov (.c (.int .i64 (-1))), some 4, none, true⟩])
 (.ret)))
theorem st80 : stmOf Tryz.prog 101 p80 = some (s80, [.tmp 4], 19) := by kernel_rfl
def p64 : Plan := ⟨⟨[], [], [], [], [], []⟩, [], [], false⟩
def s64 : Stm :=
 .seq (.ops [⟨.mov (.c (.bool false)), some 4, none, true⟩])
 (.seq (.ops [⟨.mov (.t 0), some 5, none, true⟩,
 ⟨.mov (.t 1), some 6, none, true⟩,
 ⟨.qcall (.f 101) [(.t 5), (.t 6)], some 7, none, false⟩,
 ⟨.bin .geq (.t 7) (.c (.int .i64 0)), some 8, none, true⟩,
 ⟨.mov (.t 8), some 4, none, true⟩])
 (.ret))
theorem st64 : stmOf Tryz.prog 81 p64 = some (s64, [.tmp 4], 9) := by kernel_rfl
def p65 : Plan := ⟨⟨[], [], [], [], [], []⟩, [], [], false⟩
def s65 : Stm :=
 .seq (.ops [⟨.mov (.c .nilsl), some 0, none, true⟩])
 (.seq (.ops [⟨.buildSlice 1 [(.str [])] 14 [(0, (.c (.str [102, 117, 110, 99]))), (1, (.c (.str [116, 101, 115, 116]))), (2, (.c (.str [118, 97, 114]))), (3, (.c (.str [105, 102]))), (4, (.c (.str [101, 108, 115, 101]))), (5, (.c (.str [102, 111, 114]))), (6, (.c (.str [114, 101, 116, 117, 114, 110]))), (7, (.c (.str [97, 115, 115, 101, 114, 116]))), (8, (.c (.str [115, 107, 105, 112]))), (9, (.c (.str [116, 114, 117, 101]))), (10, (.c (.str [102, 97, 108, 115, 101]))), (11, (.c (.str [105, 110, 116]))), (12, (.c (.str [102, 108, 111, 97, 116]))), (13, (.c (.str [98, 111, 111, 108])))] false, some 1, none, true⟩,
 ⟨.mov (.t 1), some 0, none, true⟩])
 (.ret))
theorem st65 : stmOf Tryz.prog 82 p65 = some (s65, [.tmp 0], 2) := by kernel_rfl
def p40 : Plan := ⟨⟨[], [], [], [], [], []⟩, [], [], false⟩
def s40 : Stm :=
 .seq (.ops [⟨.mov (.c (.bool false)), some 2, none, true⟩])
 (.seq (.ops [⟨.qcall (.f 82) [], some 3, none, false⟩,
 ⟨.mov (.t 0), some 4, none, true⟩,
 ⟨.qcall (.f 81) [(.t 3), (.t 4)], some 5, none, false⟩,
 ⟨.mov (.t 5), some 2, none, true⟩])
 (.ret))
theorem st40 : stmOf Tryz.prog 58 p40 = some (s40, [.tmp 2], 6) := by kernel_rfl
def p85 : Plan := ⟨⟨[], [], [], [], [], []⟩, [], [], false⟩
def s85 : Stm :=
 .seq (.ops [⟨.mov (.c (.bool false)), some 2, none, true⟩])
 (.seq (.seq (.ops [⟨.mov (.t 0), some 3, none, true⟩,
 ⟨.len .str (.t 3), some 4, none, false⟩,
 ⟨.bin .gtr (.t 4) (.c (.int .i64 1)), some 5, none, true⟩,
 ⟨.mov (.t 5), some 6, none, true⟩,
 ⟨.mov (.t 0), some 7, (some (6, true)), true⟩,
 ⟨.indexS (.t 7) (.c (.int .i64 0)), some 8, (some (6, true)), true⟩,
 ⟨.bin .eql (.t 8) (.c (.int .u8 48)), some 9, (some (6, true)), true⟩,
 ⟨.pick (.t 6) (.t 9) (.c (.bool false)), some 10, none, true⟩,
 ⟨.mov (.t 10), some 11, none, true⟩,
 ⟨.mov (.t 0), some 12, (some (11, false)), true⟩,
 ⟨.len .str (.t 12), some 13, (some (11, false)), false⟩,
 ⟨.bin .gtr (.t 13) (.c (.int .i64 19)), some 14, (some (11, false)), true⟩,
 ⟨.pick (.t 11) (.c (.bool true)) (.t 14), some 15, none, true⟩])
 (.cond (.t 15)
 (.seq (.ops [⟨.mov (.c (.bool false)), some 2, none, true⟩])
 (.ret))
 (.skip)))
 (.seq (.ops [⟨.mov (.t 0), some 16, none, true⟩,
 ⟨.len .str (.t 16), some 17, none, false⟩,
 ⟨.bin .lss (.t 17) (.c (.int .i64 19)), some 18, none, true⟩,
 ⟨.mov (.t 18), some 19, none, true⟩,
 ⟨.mov (.t 0), some 20, (some (19, false)), true⟩,
 ⟨.bin .leq (.t 20) (.c (.str [57, 50, 50, 51, 51, 55, 50, 48, 51, 54, 56, 53, 52, 55, 55, 53, 56, 48, 55])), some 21, (some (19, false)), true⟩,
 ⟨.pick (.t 19) (.c (.bool true)) (.t 21), some 22, none, true⟩,
 ⟨.mov (.t 22), some 2, none, true⟩])
 (.ret)))
theorem st85 : stmOf Tryz.prog 80 p85 = some (s85, [.tmp 2], 23) := by kernel_rfl
def p50 : Plan := ⟨⟨[], [], [], [], [], []⟩, [], [], false⟩
def s50 : Stm :=
 .seq (.ops [⟨.mov (.c (.int .i64 0)), some 4, none, true⟩])
 (.seq (.ops [⟨.mov (.t 1), some 6, none, true⟩,
 ⟨.mov (.t 6), some 5, none, true⟩])
 (.seq (.block 0 (.loop (.seq (.seq (.ops [⟨.mov (.t 1), some 7, none, true⟩,
 ⟨.mov (.t 0), some 8, none, true⟩,
 ⟨.len .str (.t 8), some 9, none, false⟩,
 ⟨.bin .lss (.t 7) (.t 9), some 10, none, true⟩])
 (.cond (.t 10)
 (.skip)
 (.exit 0)))
 (.block 1 (.block 2 (.seq (.ops [⟨.mov (.t 0), some 15, none, true⟩,
 ⟨.mov (.t 1), some 16, none, true⟩,
 ⟨.indexS (.t 15) (.t 16), some 17, none, true⟩,
 ⟨.bin .eql (.t 17) (.c (.int .u8 32)), some 18, none, true⟩,
 ⟨.mov (.t 18), some 19, none, true⟩,
 ⟨.mov (.t 0), some 20, (some (19, false)), true⟩,
 ⟨.mov (.t 1), some 21, (some (19, false)), true⟩,
 ⟨.indexS (.t 20) (.t 21), some 22, (some (19, false)), true⟩,
 ⟨.bin .eql (.t 22) (.c (.int .u8 9)), some 23, (some (19, false)), true⟩,
 ⟨.pick (.t 19) (.c (.bool true)) (.t 23), some 24, none, true⟩,
 ⟨.mov (.t 24), some 25, none, true⟩,
 ⟨.mov (.t 0), some 26, (some (25, false)), true⟩,
 ⟨.mov (.t 1), some 27, (some (25, false)), true⟩,
 ⟨.indexS (.t 26) (.t 27), some 28, (some (25, false)), true⟩,
 ⟨.bin .eql (.t 28) (.c (.int .u8 10)), some 29, (some (25, false)), true⟩,
 ⟨.pick (.t 25) (.c (.bool true)) (.t 29), some 30, none, true⟩,
 ⟨.mov (.t 30), some 14, none, true⟩])
 (.cond (.t 14)
 (.ops [⟨.mov (.t 1), some 31, none, true⟩,
 ⟨.bin .add (.t 31) (.c (.int .i64 1)), some 32, none, true⟩,
 ⟨.mov (.t 32), some 1, none, true⟩])
 (.seq (.ops [⟨.mov (.t 0), some 34, none, true⟩,
 ⟨.mov (.t 1), some 35, none, true⟩,
 ⟨.slice .str (.t 34) (some (.t 35)) none none, some 36, none, false⟩,
 ⟨.qcall (.f 51) [(.t 36), (.c (.str [47, 47]))], some 37, none, false⟩,
 ⟨.mov (.t 37), some 33, none, true⟩])
 (.cond (.t 33)
 (.ops [⟨.mov (.t 1), some 38, none, true⟩,
 ⟨.mov (.t 0), some 39, none, true⟩,
 ⟨.mov (.t 1), some 40, none, true⟩,
 ⟨.qcall (.f 52) [(.t 39), (.t 40), (.f 53)], some 41, none, false⟩,
 ⟨.bin .add (.t 38) (.t 41), some 42, none, true⟩,
 ⟨.mov (.t 42), some 1, none, true⟩])
 (.seq (.ops [⟨.mov (.t 1), some 11, none, true⟩,
 ⟨.mov (.t 5), some 12, none, true⟩,
 ⟨.bin .sub (.t 11) (.t 12), some 13, none, true⟩,
 ⟨.mov (.t 13), some 4, none, true⟩])
 (.ret)))))))))))
 (.seq (.ops [⟨.mov (.t 1), some 43, none, true⟩,
 ⟨.mov (.t 5), some 44, none, true⟩,
 ⟨.bin .sub (.t 43) (.t 44), some 45, none, true⟩,
 ⟨.mov (.t 45), some 4, none, true⟩])
 (.ret))))
theorem st50 : stmOf Tryz.prog 30 p50 = some (s50, [.tmp 4], 46) := by kernel_rfl
def idx (v : List UInt8) : List (List UInt8) → Nat → Int
  | [], _ => -1
  | x :: l, i => if v = x then i else idx v l (i + 1)
theorem idx_mem (v : List UInt8) : ∀ (l : List (List UInt8)) (i : Nat), decide (idx v l i ≥ 0) = l.contains v
  | [], i => by simp [idx]
  | x :: l, i => by
    simp only [idx, List.contains_cons]
    split
    · rename_i e; subst e; simp
    · rename_i e
      rw [idx_mem v l (i + 1)]
      have : (v == x) = false := by simp [e]
      rw [this]; simp
theorem drop_get {α : Type} {l : List α} {i : Nat} {x : α} (h : l[i]? = some x) : l.drop i = x :: l.drop (i + 1) := by
  obtain ⟨h1, h2⟩ := List.getElem?_eq_some_iff.1 h
  rw [List.drop_eq_getElem_cons h1, h2]
theorem index_c (l : List (List UInt8)) (v : List UInt8) (hl : l.length ≤ 1000000) : PCall Tryz.prog 101 [.sl (encS l), .str v] (.int .i64 (idx v l 0)) := by
  refine PCall.run tb75_ok st80 (by simp) fun E => ?_
  simp only [s80, len_encS, zz, zzN, zzF, zzD, zzM, cond_true, cond_false, seval]
  intro _
  refine run_loop (X := Nat) (fun i => [(0, .sl (encS l)), (1, .str v), (7, .int .i64 l.length), (8, .int .i64 i)]) (fun _ => AHeap.emp) (fun i => l.length - i)
    (fun i => i ≤ l.length ∧ idx v (l.drop i) i = idx v l 0) 0 (by simp) ?_ (AHeap.sub_refl _) ?_
  · simp only [zz, zzN, zzF, zzD, zzM, cond_true, cond_false, seval]
  · rintro i Q ⟨i1, i2⟩ hQ
    have wi : IntKind.i64.wrap ((i : Int) + 1) = ((i + 1 : Nat) : Int) := wrap_succ (by omega)
    by_cases c1 : i < l.length
    · have g1 : ((i : Int) < (l.length : Int)) = True := by simp; omega
      obtain ⟨x, hx⟩ : ∃ x, l[i]? = some x := by rw [List.getElem?_eq_getElem c1]; exact ⟨_, rfl⟩
      rw [drop_get hx] at i2
      simp only [idx] at i2
      simp only [g1, wi, hx, askE_encS, decide_true, zz, zzN, zzF, zzD, zzM, cond_true, cond_false, seval]
      refine ⟨by omega, ?_⟩
      split
      · rename_i e
        rw [if_pos (by simpa using e)] at i2
        exact .inl i2
      · rename_i e
        rw [if_neg (by simpa using e)] at i2
        refine hQ (i + 1) _ _ ⟨by omega, i2⟩ ?_ (AHeap.sub_refl _) (by omega)
        simp only [zz, zzN, zzF, zzD, zzM, cond_true, cond_false, seval]
    · have g1 : ((i : Int) < (l.length : Int)) = False := by simp; omega
      have e : l.drop i = [] := List.drop_of_length_le (by omega)
      rw [e] at i2
      simp only [g1, decide_false, zz, zzN, zzF, zzD, zzM, cond_true, cond_false, seval]
      exact .inl i2
def q80 : List D → Option D
  | [.sl l', .str v] => match decS l' with
    | some l => if l.length ≤ 1000000 then some (.int .i64 (idx v l 0)) else none
    | _ => none
  | _ => none
theorem q80_ok (args : List D) (d : D) (h : q80 args = some d) : PCall Tryz.prog 101 args d := by
  unfold q80 at h
  split at h
  · split at h
    · rename_i e0
      cases decS_some e0
      split at h
      · cases h; exact index_c _ _ (by assumption)
      · cases h
    · cases h
  · cases h
theorem q80_eq (l : List (List UInt8)) (v : List UInt8) : q80 [.sl (encS l), .str v] = if l.length ≤ 1000000 then some (.int .i64 (idx v l 0)) else none := by simp only [q80, decS_enc]
def tb80 : Tab := tb75.addQ 101 q80
theorem tb80_q (g : FuncId) (args : List D) : tb80.q g args = if g = 101 then q80 args else tb75.q g args := rfl
theorem tb80_a : tb80.a = tb75.a := rfl
theorem tb80_c : tb80.c = tb75.c := rfl
theorem tb80_ok : tb80.ok Tryz.prog := Tab.addQ_ok tb75_ok q80_ok
theorem tb80_e : type_of% (And.intro (And.intro @tb80_q (And.intro @tb80_a @tb80_c)) @tb75_e) := (And.intro (And.intro @tb80_q (And.intro @tb80_a @tb80_c)) @tb75_e)
theorem contains_c (l : List (List UInt8)) (v : List UInt8) (hl : l.length ≤ 1000000) : PCall Tryz.prog 81 [.sl (encS l), .str v] (.bool (l.contains v)) := by
  refine PCall.run tb80_ok st64 (by simp) fun E => ?_
  have g : (l.length ≤ 1000000) = True := by simp; omega
  simp only [s64, q80_eq, idx_mem, g, tb80_e, zz, zzN, zzF, zzD, zzM, cond_true, cond_false, seval]
def q64 : List D → Option D
  | [.sl l', .str v] => match decS l' with
    | some l => if l.length ≤ 1000000 then some (.bool (l.contains v)) else none
    | _ => none
  | _ => none
theorem q64_ok (args : List D) (d : D) (h : q64 args = some d) : PCall Tryz.prog 81 args d := by
  unfold q64 at h
  split at h
  · split at h
    · rename_i e0
      cases decS_some e0
      split at h
      · cases h; exact contains_c _ _ (by assumption)
      · cases h
    · cases h
  · cases h
theorem q64_eq (l : List (List UInt8)) (v : List UInt8) : q64 [.sl (encS l), .str v] = if l.length ≤ 1000000 then some (.bool (l.contains v)) else none := by simp only [q64, decS_enc]
def tb64 : Tab := tb80.addQ 81 q64
theorem tb64_q (g : FuncId) (args : List D) : tb64.q g args = if g = 81 then q64 args else tb80.q g args := rfl
theorem tb64_a : tb64.a = tb80.a := rfl
theorem tb64_c : tb64.c = tb80.c := rfl
theorem tb64_ok : tb64.ok Tryz.prog := Tab.addQ_ok tb80_ok q64_ok
theorem tb64_e : type_of% (And.intro (And.intro @tb64_q (And.intro @tb64_a @tb64_c)) @tb80_e) := (And.intro (And.intro @tb64_q (And.intro @tb64_a @tb64_c)) @tb80_e)
def words : List (List UInt8) := [[102, 117, 110, 99], [116, 101, 115, 116], [118, 97, 114], [105, 102], [101, 108, 115, 101], [102, 111, 114], [114, 101, 116, 117, 114, 110], [97, 115, 115, 101, 114, 116], [115, 107, 105, 112], [116, 114, 117, 101], [102, 97, 108, 115, 101], [105, 110, 116], [102, 108, 111, 97, 116], [98, 111, 111, 108]]
theorem words_c : PCall Tryz.prog 82 [] (.sl (encS words)) := by
  refine PCall.run tb64_ok st65 (by simp) fun E => ?_
  simp only [s65, words, encS, tb64_e, zz, zzN, zzF, zzD, zzM, cond_true, cond_false, seval]
def q65 : List D → Option D
  | [] => if True then some (.sl (encS words)) else none
  | _ => none
theorem q65_ok (args : List D) (d : D) (h : q65 args = some d) : PCall Tryz.prog 82 args d := by
  unfold q65 at h
  split at h
  · split at h
    · cases h; exact words_c
    · cases h
  · cases h
def tb65 : Tab := tb64.addQ 82 q65
theorem tb65_q (g : FuncId) (args : List D) : tb65.q g args = if g = 82 then q65 args else tb64.q g args := rfl
theorem tb65_a : tb65.a = tb64.a := rfl
theorem tb65_c : tb65.c = tb64.c := rfl
theorem tb65_ok : tb65.ok Tryz.prog := Tab.addQ_ok tb64_ok q65_ok
theorem tb65_e : type_of% (And.intro (And.intro @tb65_q (And.intro @tb65_a @tb65_c)) @tb64_e) := (And.intro (And.intro @tb65_q (And.intro @tb65_a @tb65_c)) @tb64_e)
theorem word_c (s : List UInt8) : PCall Tryz.prog 58 [.str s] (.bool (words.contains s)) := by
  refine PCall.run tb65_ok st40 (by simp) fun E => ?_
  have g : (words.length ≤ 1000000) = True := by simp [words]
  simp only [s40, q64_eq, q65, g, tb65_e, zz, zzN, zzF, zzD, zzM, cond_true, cond_false, seval]
def q40 : List D → Option D
  | [.str s] => if True then some (.bool (words.contains s)) else none
  | _ => none
theorem q40_ok (args : List D) (d : D) (h : q40 args = some d) : PCall Tryz.prog 58 args d := by
  unfold q40 at h
  split at h
  · split at h
    · cases h; exact word_c _
    · cases h
  · cases h
def tb40 : Tab := tb65.addQ 58 q40
theorem tb40_q (g : FuncId) (args : List D) : tb40.q g args = if g = 58 then q40 args else tb65.q g args := rfl
theorem tb40_a : tb40.a = tb65.a := rfl
theorem tb40_c : tb40.c = tb65.c := rfl
theorem tb40_ok : tb40.ok Tryz.prog := Tab.addQ_ok tb65_ok q40_ok
theorem tb40_e : type_of% (And.intro (And.intro @tb40_q (And.intro @tb40_a @tb40_c)) @tb65_e) := (And.intro (And.intro @tb40_q (And.intro @tb40_a @tb40_c)) @tb65_e)
def mxL : List UInt8 := [57, 50, 50, 51, 51, 55, 50, 48, 51, 54, 56, 53, 52, 55, 55, 53, 56, 48, 55]
def wholeL (s : List UInt8) : Bool := !(decide (1 < s.length) && ((s.getD 0 0).toNat : Int) == 48 || decide (19 < s.length)) && (decide (s.length < 19) || (Op.bytesLess s mxL || s == mxL))
theorem whole_c (s : List UInt8) : PCall Tryz.prog 80 [.str s] (.bool (wholeL s)) := by
  refine PCall.run tb40_ok st85 (by simp) fun E => ?_
  simp only [s85, strEv, tb40_e, zz, zzN, zzF, zzD, zzM, cond_true, cond_false, seval]
  simp only [or_self, wholeL, mxL]
  intro _
  by_cases c1 : 1 < s.length
  · have g1 : (s.length : Int) > 1 := by omega
    rw [if_pos g1]
    refine ⟨by omega, ?_⟩
    by_cases c2 : (((s.getD 0 0).toNat : Int) == 48) = true
    · rw [if_pos c2]; simp only [c1, c2]; simp
    · rw [if_neg c2]
      have c2' : (((s.getD 0 0).toNat : Int) == 48) = false := by simpa using c2
      intro _
      by_cases c3 : (s.length : Int) > 19
      · have c3' : 19 < s.length := by omega
        rw [if_pos c3]; simp [c3']
      · have c3' : ¬ 19 < s.length := by omega
        rw [if_neg c3]
        intro _
        by_cases c4 : (s.length : Int) < 19
        · have c4' : s.length < 19 := by omega
          rw [if_pos c4]; simp only [c2', c3', c4']; simp
        · have c4' : ¬ s.length < 19 := by omega
          rw [if_neg c4]; simp only [c2', c3', c4']; simp
  · have g1 : ¬ (s.length : Int) > 1 := by omega
    have c3' : ¬ 19 < s.length := by omega
    have c4' : s.length < 19 := by omega
    rw [if_neg g1]
    intro _
    rw [if_neg (by omega)]
    intro _
    rw [if_pos (by omega)]
    simp only [c1, c3', c4']; simp
def q85 : List D → Option D
  | [.str s] => if True then some (.bool (wholeL s)) else none
  | _ => none
theorem q85_ok (args : List D) (d : D) (h : q85 args = some d) : PCall Tryz.prog 80 args d := by
  unfold q85 at h
  split at h
  · split at h
    · cases h; exact whole_c _
    · cases h
  · cases h
def tb85 : Tab := tb40.addQ 80 q85
theorem tb85_q (g : FuncId) (args : List D) : tb85.q g args = if g = 80 then q85 args else tb40.q g args := rfl
theorem tb85_a : tb85.a = tb40.a := rfl
theorem tb85_c : tb85.c = tb40.c := rfl
theorem tb85_ok : tb85.ok Tryz.prog := Tab.addQ_ok tb40_ok q85_ok
theorem tb85_e : type_of% (And.intro (And.intro @tb85_q (And.intro @tb85_a @tb85_c)) @tb40_e) := (And.intro (And.intro @tb85_q (And.intro @tb85_a @tb85_c)) @tb40_e)
def isSp (c : UInt8) : Bool := (c.toNat : Int) == 32 || (c.toNat : Int) == 9 || (c.toNat : Int) == 10
def blankN : Nat → List UInt8 → Nat
  | 0, _ => 0
  | _ + 1, [] => 0
  | n + 1, c :: t => if isSp c = true then 1 + blankN n t else if pre (c :: t) [47, 47] = true then spn (fun n => n != 10) (c :: t) + blankN n ((c :: t).drop (spn (fun n => n != 10) (c :: t))) else 0
def blankL (l : List UInt8) : Nat := blankN l.length l
theorem pre_note {c : UInt8} {t : List UInt8} (h : pre (c :: t) [47, 47] = true) : 0 < spn (fun n => n != 10) (c :: t) := by
  have e : c = 47 := by
    cases t with
    | nil => simp [pre] at h
    | cons d t => simp [pre] at h; exact h.1
  subst e
  rw [spn_cons, if_pos (by decide)]
  omega
theorem blankN_fuel : ∀ (n m : Nat) (l : List UInt8), l.length ≤ n → l.length ≤ m → blankN n l = blankN m l
  | 0, 0, l, _, _ => rfl
  | 0, m + 1, [], _, _ => rfl
  | n + 1, 0, [], _, _ => rfl
  | n + 1, m + 1, [], _, _ => rfl
  | 0, _, c :: t, h, _ => by simp at h
  | _, 0, c :: t, _, h => by simp at h
  | n + 1, m + 1, c :: t, h1, h2 => by
    simp only [List.length_cons] at h1 h2
    simp only [blankN]
    split
    · rw [blankN_fuel n m t (by omega) (by omega)]
    · split
      · rename_i hp
        have := pre_note hp
        rw [blankN_fuel n m _ (by simp; omega) (by simp; omega)]
      · rfl
theorem blankL_nil : blankL [] = 0 := rfl
theorem blankL_cons (c : UInt8) (t : List UInt8) : blankL (c :: t) = if isSp c = true then 1 + blankL t else if pre (c :: t) [47, 47] = true then spn (fun n => n != 10) (c :: t) + blankL ((c :: t).drop (spn (fun n => n != 10) (c :: t))) else 0 := by
  show blankN (t.length + 1) (c :: t) = _
  simp only [blankN]
  split
  · rfl
  · split
    · rename_i hp
      have := pre_note hp
      rw [blankN_fuel t.length _ _ (by simp; omega) (Nat.le_refl _)]
      rfl
    · rfl
theorem blankN_le : ∀ (n : Nat) (l : List UInt8), blankN n l ≤ l.length
  | 0, l => by simp [blankN]
  | n + 1, [] => by simp [blankN]
  | n + 1, c :: t => by
    simp only [blankN]
    have h1 := blankN_le n t
    have h2 := blankN_le n ((c :: t).drop (spn (fun n => n != 10) (c :: t)))
    have h3 := spn_le (fun n => n != 10) (c :: t)
    simp only [List.length_drop, List.length_cons] at h2 h3 ⊢
    split
    · omega
    · split <;> omega
theorem blankL_le (l : List UInt8) : blankL l ≤ l.length := blankN_le _ _
theorem blank_c (s : List UInt8) (a : Nat) (h1 : a ≤ s.length) (h2 : s.length ≤ 1000000) : PCall Tryz.prog 30 [.str s, .int .i64 a] (.int .i64 (blankL (s.drop a))) := by
  refine PCall.run tb85_ok st50 (by simp) fun E => ?_
  simp only [s50, tb85_e, zz, zzN, zzF, zzD, zzM, cond_true, cond_false, seval]
  refine run_loop (X := Nat) (fun i => [(0, .str s), (1, .int .i64 i), (5, .int .i64 a)]) (fun _ => AHeap.emp) (fun i => s.length - i)
    (fun i => a ≤ i ∧ i ≤ s.length ∧ (i - a) + blankL (s.drop i) = blankL (s.drop a)) a (by simp; omega) ?_ (AHeap.sub_refl _) ?_
  · simp only [zz, zzN, zzF, zzD, zzM, cond_true, cond_false, seval]
  · rintro i Q ⟨i0, i1, i2⟩ hQ
    have wi : IntKind.i64.wrap ((i : Int) + 1) = ((i + 1 : Nat) : Int) := wrap_succ (by omega)
    have ws : IntKind.i64.wrap ((i : Int) - (a : Int)) = ((i - a : Nat) : Int) := by rw [wrap_i64 (by omega) (by omega)]; omega
    by_cases c1 : i < s.length
    · have g1 : ((i : Int) < (s.length : Int)) = True := by simp; omega
      have g2 : (s.length ≤ 1000000) = True := by simp; omega
      have g3 : ((i : Int) ≤ 1000000) = True := by simp; omega
      have g0 : (0 ≤ (i : Int)) = True := by simp
      have ts : (s.drop i).take (s.length - i) = s.drop i := List.take_of_length_le (by simp)
      have hl := spn_le (fun n => n != 10) (s.drop i)
      have wn : IntKind.i64.wrap ((i : Int) + (spn (fun n => n != 10) (s.drop i) : Int)) = ((i + spn (fun n => n != 10) (s.drop i) : Nat) : Int) := wrap_add (by simp at hl; omega)
      simp only [g0, g1, g2, g3, wi, ws, wn, ts, q74, q75, isByteP, decide_true, tb85_e, zz, zzN, zzF, zzD, zzM, cond_true, cond_false, seval]
      rw [drop_cons c1, blankL_cons] at i2
      rw [← drop_cons c1] at i2
      have sp : ∀ (σ : Fr) (h : isSp (s.getD i 0) = true), leL [(0, .str s), (1, .int .i64 (i + 1 : Nat)), (5, .int .i64 a)] σ → Q σ AHeap.emp := fun σ h hs => by
        rw [if_pos h] at i2
        exact hQ (i + 1) _ _ ⟨by omega, by omega, by omega⟩ hs (AHeap.sub_refl _) (by omega)
      intro _
      split
      · rename_i e
        refine sp _ (by simp [isSp]; simp at e; simp [e]) ?_
        simp only [zz, zzN, zzF, zzD, zzM, cond_true, cond_false, seval]
      · rename_i e1
        split
        · rename_i e
          refine sp _ (by simp [isSp]; simp at e; simp [e]) ?_
          simp only [zz, zzN, zzF, zzD, zzM, cond_true, cond_false, seval]
        · rename_i e2
          split
          · rename_i e
            refine sp _ (by simp [isSp]; simp at e; simp [e]) ?_
            simp only [zz, zzN, zzF, zzD, zzM, cond_true, cond_false, seval]
          · rename_i e3
            refine ⟨by omega, ?_⟩
            have hsp : isSp (s.getD i 0) = false := by
              simp only [isSp]
              simp only [Bool.not_eq_true] at e1 e2 e3
              rw [e1, e2, e3]; rfl
            rw [if_neg (by rw [hsp]; exact Bool.false_ne_true)] at i2
            split
            · rename_i hp
              rw [if_pos hp] at i2
              have := pre_note (c := s.getD i 0) (t := s.drop (i + 1)) (by rw [← drop_cons c1]; exact hp)
              rw [← drop_cons c1] at this
              rw [List.drop_drop] at i2
              rw [List.length_drop] at hl
              refine hQ (i + spn (fun n => n != 10) (s.drop i)) _ _ ⟨by omega, by omega, by omega⟩ ?_ (AHeap.sub_refl _) (by omega)
              simp only [zz, zzN, zzF, zzD, zzM, cond_true, cond_false, seval]
            · rename_i hp
              rw [if_neg hp] at i2
              exact .inl (by omega)
    · have g1 : ((i : Int) < (s.length : Int)) = False := by simp; omega
      have e : s.drop i = [] := List.drop_of_length_le (by omega)
      rw [e, blankL_nil] at i2
      simp only [g1, ws, decide_false, tb85_e, zz, zzN, zzF, zzD, zzM, cond_true, cond_false, seval]
      exact fun _ => .inl (by omega)
theorem blank_c' (s : List UInt8) (a : Int) (h : 0 ≤ a ∧ a ≤ s.length ∧ s.length ≤ 1000000) : PCall Tryz.prog 30 [.str s, .int .i64 a] (.int .i64 (blankL (s.drop a.toNat))) := by
  have := blank_c s a.toNat (by omega) h.2.2
  rwa [Int.toNat_of_nonneg h.1] at this
def q50 : List D → Option D
  | [.str s, .int .i64 a] => if 0 ≤ a ∧ a ≤ s.length ∧ s.length ≤ 1000000 then some (.int .i64 (blankL (s.drop a.toNat))) else none
  | _ => none
theorem q50_ok (args : List D) (d : D) (h : q50 args = some d) : PCall Tryz.prog 30 args d := by
  unfold q50 at h
  split at h
  · split at h
    · cases h; exact blank_c' _ _ (by assumption)
    · cases h
  · cases h
def tb50 : Tab := tb85.addQ 30 q50
theorem tb50_q (g : FuncId) (args : List D) : tb50.q g args = if g = 30 then q50 args else tb85.q g args := rfl
theorem tb50_a : tb50.a = tb85.a := rfl
theorem tb50_c : tb50.c = tb85.c := rfl
theorem tb50_ok : tb50.ok Tryz.prog := Tab.addQ_ok tb85_ok q50_ok
theorem tb50_e : type_of% (And.intro (And.intro @tb50_q (And.intro @tb50_a @tb50_c)) @tb85_e) := (And.intro (And.intro @tb50_q (And.intro @tb50_a @tb50_c)) @tb85_e)
end Go.Proofs.YtpagdhbmbnoddaaGreatDoor.Zz
