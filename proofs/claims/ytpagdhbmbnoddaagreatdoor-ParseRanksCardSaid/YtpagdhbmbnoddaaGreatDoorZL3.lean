/- Contracts: lex: words, numbers. -/
import Derived.Test.YtpagdhbmbnoddaaGreatDoorZL1
set_option linter.unnecessarySimpa false
namespace Go.Proofs.YtpagdhbmbnoddaaGreatDoor.Zz
set_option linter.unusedVariables false
set_option linter.unusedSimpArgs false
set_option maxRecDepth 20000
def p80 : Plan := ⟨⟨[], [], [], [], [], []⟩, [], [], false⟩
/-- slices.Index[[]string,string] (2 parameters, 0 captured) -/
def s80 : Stm :=
 .seq (.ops [⟨.mov (.c (.int .i64 0)), (some 4), none, true⟩])
 (.seq (.seq (.ops [⟨.mov (.t 0), (some 6), none, true⟩,
 ⟨.len .sl (.t 6), (some 7), none, false⟩,
 ⟨.mov (.c (.int .i64 0)), (some 8), none, true⟩])
 (.block 0 (.loop (.seq (.ops [⟨.bin .lss (.t 8) (.t 7), (some 9), none, true⟩])
 (.seq (.cond (.t 9)
 (.skip)
 (.exit 0))
 (.seq (.block 1 (.seq (.ops [⟨.mov (.t 8), (some 10), none, true⟩,
 ⟨.mov (.t 10), (some 5), none, true⟩])
 (.seq (.ops [⟨.mov (.t 1), (some 11), none, true⟩,
 ⟨.mov (.t 0), (some 12), none, true⟩,
 ⟨.mov (.t 5), (some 13), none, true⟩,
 ⟨.indexAddrS 1 (.t 12) (.t 13), (some 14), none, false⟩,
 ⟨.load none (.t 14), (some 15), none, false⟩,
 ⟨.bin .eql (.t 11) (.t 15), (some 16), none, true⟩])
 (.cond (.t 16)
 (.seq (.ops [⟨.mov (.t 5), (some 17), none, true⟩,
 ⟨.mov (.t 17), (some 4), none, true⟩])
 (.ret))
 (.skip)))))
 (.ops [⟨.bin .add (.t 8) (.c (.int .i64 1)), (some 18), none, true⟩,
 ⟨.mov (.t 18), (some 8), none, true⟩])))))))
 (.seq (.ops [⟨.mov (.c (.int .i64 (-1))), (some 4), none, true⟩])
 (.ret)))
theorem st80 : stmOf Tryz.prog 101 p80 = some (s80, [.tmp 4], 19) := by kernel_rfl

def p64 : Plan := ⟨⟨[], [], [], [], [], []⟩, [], [], false⟩
/-- slices.Contains[[]string,string] (2 parameters, 0 captured) -/
def s64 : Stm :=
 .seq (.ops [⟨.mov (.c (.bool false)), (some 4), none, true⟩])
 (.seq (.ops [⟨.mov (.t 0), (some 5), none, true⟩,
 ⟨.mov (.t 1), (some 6), none, true⟩,
 ⟨.qcall (.f 101) [(.t 5), (.t 6)], (some 7), none, false⟩,
 ⟨.bin .geq (.t 7) (.c (.int .i64 0)), (some 8), none, true⟩,
 ⟨.mov (.t 8), (some 4), none, true⟩])
 (.ret))
theorem st64 : stmOf Tryz.prog 81 p64 = some (s64, [.tmp 4], 9) := by kernel_rfl

def p65 : Plan := ⟨⟨[], [], [], [], [], []⟩, [], [], false⟩
/-- cupel/lex.words (0 parameters, 0 captured) -/
def s65 : Stm :=
 .seq (.ops [⟨.mov (.c .nilsl), (some 0), none, true⟩])
 (.seq (.ops [⟨.buildSlice 1 [(.str [])] 14 [(0, (.c (.str [102, 117, 110, 99]))), (1, (.c (.str [116, 101, 115, 116]))), (2, (.c (.str [118, 97, 114]))), (3, (.c (.str [105, 102]))), (4, (.c (.str [101, 108, 115, 101]))), (5, (.c (.str [102, 111, 114]))), (6, (.c (.str [114, 101, 116, 117, 114, 110]))), (7, (.c (.str [97, 115, 115, 101, 114, 116]))), (8, (.c (.str [115, 107, 105, 112]))), (9, (.c (.str [116, 114, 117, 101]))), (10, (.c (.str [102, 97, 108, 115, 101]))), (11, (.c (.str [105, 110, 116]))), (12, (.c (.str [102, 108, 111, 97, 116]))), (13, (.c (.str [98, 111, 111, 108])))] false, (some 1), none, true⟩,
 ⟨.mov (.t 1), (some 0), none, true⟩])
 (.ret))
theorem st65 : stmOf Tryz.prog 82 p65 = some (s65, [.tmp 0], 2) := by kernel_rfl

def p40 : Plan := ⟨⟨[], [], [], [], [], []⟩, [], [], false⟩
/-- cupel/lex.Word (1 parameters, 0 captured) -/
def s40 : Stm :=
 .seq (.ops [⟨.mov (.c (.bool false)), (some 2), none, true⟩])
 (.seq (.ops [⟨.qcall (.f 82) [], (some 3), none, false⟩,
 ⟨.mov (.t 0), (some 4), none, true⟩,
 ⟨.qcall (.f 81) [(.t 3), (.t 4)], (some 5), none, false⟩,
 ⟨.mov (.t 5), (some 2), none, true⟩])
 (.ret))
theorem st40 : stmOf Tryz.prog 58 p40 = some (s40, [.tmp 2], 6) := by kernel_rfl

def p85 : Plan := ⟨⟨[], [], [], [], [], []⟩, [], [], false⟩
/-- cupel/lex.whole (1 parameters, 0 captured) -/
def s85 : Stm :=
 .seq (.ops [⟨.mov (.c (.bool false)), (some 2), none, true⟩])
 (.seq (.seq (.ops [⟨.mov (.t 0), (some 3), none, true⟩,
 ⟨.len .str (.t 3), (some 4), none, false⟩,
 ⟨.bin .gtr (.t 4) (.c (.int .i64 1)), (some 5), none, true⟩,
 ⟨.mov (.t 5), (some 6), none, true⟩,
 ⟨.mov (.t 0), (some 7), (some (6, true)), true⟩,
 ⟨.indexS (.t 7) (.c (.int .i64 0)), (some 8), (some (6, true)), true⟩,
 ⟨.bin .eql (.t 8) (.c (.int .u8 48)), (some 9), (some (6, true)), true⟩,
 ⟨.pick (.t 6) (.t 9) (.c (.bool false)), (some 10), none, true⟩,
 ⟨.mov (.t 10), (some 11), none, true⟩,
 ⟨.mov (.t 0), (some 12), (some (11, false)), true⟩,
 ⟨.len .str (.t 12), (some 13), (some (11, false)), false⟩,
 ⟨.bin .gtr (.t 13) (.c (.int .i64 19)), (some 14), (some (11, false)), true⟩,
 ⟨.pick (.t 11) (.c (.bool true)) (.t 14), (some 15), none, true⟩])
 (.cond (.t 15)
 (.seq (.ops [⟨.mov (.c (.bool false)), (some 2), none, true⟩])
 (.ret))
 (.skip)))
 (.seq (.ops [⟨.mov (.t 0), (some 16), none, true⟩,
 ⟨.len .str (.t 16), (some 17), none, false⟩,
 ⟨.bin .lss (.t 17) (.c (.int .i64 19)), (some 18), none, true⟩,
 ⟨.mov (.t 18), (some 19), none, true⟩,
 ⟨.mov (.t 0), (some 20), (some (19, false)), true⟩,
 ⟨.bin .leq (.t 20) (.c (.str [57, 50, 50, 51, 51, 55, 50, 48, 51, 54, 56, 53, 52, 55, 55, 53, 56, 48, 55])), (some 21), (some (19, false)), true⟩,
 ⟨.pick (.t 19) (.c (.bool true)) (.t 21), (some 22), none, true⟩,
 ⟨.mov (.t 22), (some 2), none, true⟩])
 (.ret)))
theorem st85 : stmOf Tryz.prog 80 p85 = some (s85, [.tmp 2], 23) := by kernel_rfl

def p50 : Plan := ⟨⟨[], [], [], [], [], []⟩, [], [], false⟩
/-- cupel/lex.blank (2 parameters, 0 captured) -/
def s50 : Stm :=
 .seq (.ops [⟨.mov (.c (.int .i64 0)), (some 4), none, true⟩])
 (.seq (.ops [⟨.mov (.t 1), (some 6), none, true⟩,
 ⟨.mov (.t 6), (some 5), none, true⟩])
 (.seq (.block 0 (.loop (.seq (.seq (.ops [⟨.mov (.t 1), (some 7), none, true⟩,
 ⟨.mov (.t 0), (some 8), none, true⟩,
 ⟨.len .str (.t 8), (some 9), none, false⟩,
 ⟨.bin .lss (.t 7) (.t 9), (some 10), none, true⟩])
 (.cond (.t 10)
 (.skip)
 (.exit 0)))
 (.block 1 (.block 2 (.seq (.ops [⟨.mov (.t 0), (some 15), none, true⟩,
 ⟨.mov (.t 1), (some 16), none, true⟩,
 ⟨.indexS (.t 15) (.t 16), (some 17), none, true⟩,
 ⟨.bin .eql (.t 17) (.c (.int .u8 32)), (some 18), none, true⟩,
 ⟨.mov (.t 18), (some 19), none, true⟩,
 ⟨.mov (.t 0), (some 20), (some (19, false)), true⟩,
 ⟨.mov (.t 1), (some 21), (some (19, false)), true⟩,
 ⟨.indexS (.t 20) (.t 21), (some 22), (some (19, false)), true⟩,
 ⟨.bin .eql (.t 22) (.c (.int .u8 9)), (some 23), (some (19, false)), true⟩,
 ⟨.pick (.t 19) (.c (.bool true)) (.t 23), (some 24), none, true⟩,
 ⟨.mov (.t 24), (some 25), none, true⟩,
 ⟨.mov (.t 0), (some 26), (some (25, false)), true⟩,
 ⟨.mov (.t 1), (some 27), (some (25, false)), true⟩,
 ⟨.indexS (.t 26) (.t 27), (some 28), (some (25, false)), true⟩,
 ⟨.bin .eql (.t 28) (.c (.int .u8 10)), (some 29), (some (25, false)), true⟩,
 ⟨.pick (.t 25) (.c (.bool true)) (.t 29), (some 30), none, true⟩,
 ⟨.mov (.t 30), (some 14), none, true⟩])
 (.cond (.t 14)
 (.ops [⟨.mov (.t 1), (some 31), none, true⟩,
 ⟨.bin .add (.t 31) (.c (.int .i64 1)), (some 32), none, true⟩,
 ⟨.mov (.t 32), (some 1), none, true⟩])
 (.seq (.ops [⟨.mov (.t 0), (some 34), none, true⟩,
 ⟨.mov (.t 1), (some 35), none, true⟩,
 ⟨.slice .str (.t 34) (some (.t 35)) none none, (some 36), none, false⟩,
 ⟨.qcall (.f 51) [(.t 36), (.c (.str [47, 47]))], (some 37), none, false⟩,
 ⟨.mov (.t 37), (some 33), none, true⟩])
 (.cond (.t 33)
 (.ops [⟨.mov (.t 1), (some 38), none, true⟩,
 ⟨.mov (.t 0), (some 39), none, true⟩,
 ⟨.mov (.t 1), (some 40), none, true⟩,
 ⟨.qcall (.f 52) [(.t 39), (.t 40), (.f 53)], (some 41), none, false⟩,
 ⟨.bin .add (.t 38) (.t 41), (some 42), none, true⟩,
 ⟨.mov (.t 42), (some 1), none, true⟩])
 (.seq (.ops [⟨.mov (.t 1), (some 11), none, true⟩,
 ⟨.mov (.t 5), (some 12), none, true⟩,
 ⟨.bin .sub (.t 11) (.t 12), (some 13), none, true⟩,
 ⟨.mov (.t 13), (some 4), none, true⟩])
 (.ret)))))))))))
 (.seq (.ops [⟨.mov (.t 1), (some 43), none, true⟩,
 ⟨.mov (.t 5), (some 44), none, true⟩,
 ⟨.bin .sub (.t 43) (.t 44), (some 45), none, true⟩,
 ⟨.mov (.t 45), (some 4), none, true⟩])
 (.ret))))
theorem st50 : stmOf Tryz.prog 30 p50 = some (s50, [.tmp 4], 46) := by kernel_rfl


/-- Where a text stands in a list, from a place on; else -1. -/
def idx (v : List UInt8) : List (List UInt8) → Nat → Int
  | [], _ => -1
  | x :: l, i => if v = x then i else idx v l (i + 1)
theorem idx_mem (v : List UInt8) : ∀ (l : List (List UInt8)) (i : Nat), decide (idx v l i ≥ 0) = l.contains v
  | [], i => by simp [idx]
  | x :: l, i => by
    simp only [idx, List.contains_cons]
    split
    · rename_i e; subst e; simp
    · rename_i e
      rw [idx_mem v l (i + 1)]
      have : (v == x) = false := by simp [e]
      rw [this]; simp
theorem drop_get {α : Type} {l : List α} {i : Nat} {x : α} (h : l[i]? = some x) : l.drop i = x :: l.drop (i + 1) := by
  obtain ⟨h1, h2⟩ := List.getElem?_eq_some_iff.1 h
  rw [List.drop_eq_getElem_cons h1, h2]

theorem index_c (l : List (List UInt8)) (v : List UInt8) (hl : l.length ≤ 1000000) : PCall Tryz.prog 101 [.sl (encS l), .str v] (.int .i64 (idx v l 0)) := by
  refine PCall.run tb75_ok st80 (by simp) fun E => ?_
  simp only [s80, len_encS, zz, zzN, zzF, zzD, zzM, cond_true, cond_false, seval]
  intro _
  refine run_loop (X := Nat) (fun i => [(0, .sl (encS l)), (1, .str v), (7, .int .i64 l.length), (8, .int .i64 i)]) (fun _ => AHeap.emp) (fun i => l.length - i)
    (fun i => i ≤ l.length ∧ idx v (l.drop i) i = idx v l 0) 0 (by simp) ?_ (AHeap.sub_refl _) ?_
  · simp only [zz, zzN, zzF, zzD, zzM, cond_true, cond_false, seval]
  · rintro i Q ⟨i1, i2⟩ hQ
    have wi : IntKind.i64.wrap ((i : Int) + 1) = ((i + 1 : Nat) : Int) := wrap_succ (by omega)
    by_cases c1 : i < l.length
    · have g1 : ((i : Int) < (l.length : Int)) = True := by simp; omega
      obtain ⟨x, hx⟩ : ∃ x, l[i]? = some x := by rw [List.getElem?_eq_getElem c1]; exact ⟨_, rfl⟩
      rw [drop_get hx] at i2
      simp only [idx] at i2
      simp only [g1, wi, hx, askE_encS, decide_true, zz, zzN, zzF, zzD, zzM, cond_true, cond_false, seval]
      refine ⟨by omega, ?_⟩
      split
      · rename_i e
        rw [if_pos (by simpa using e)] at i2
        exact .inl i2
      · rename_i e
        rw [if_neg (by simpa using e)] at i2
        refine hQ (i + 1) _ _ ⟨by omega, i2⟩ ?_ (AHeap.sub_refl _) (by omega)
        simp only [zz, zzN, zzF, zzD, zzM, cond_true, cond_false, seval]
    · have g1 : ((i : Int) < (l.length : Int)) = False := by simp; omega
      have e : l.drop i = [] := List.drop_of_length_le (by omega)
      rw [e] at i2
      simp only [g1, decide_false, zz, zzN, zzF, zzD, zzM, cond_true, cond_false, seval]
      exact .inl i2
def q80 : List D → Option D
  | [.sl l', .str v] => match decS l' with
    | some l => if l.length ≤ 1000000 then some (.int .i64 (idx v l 0)) else none
    | _ => none
  | _ => none
theorem q80_ok (args : List D) (d : D) (h : q80 args = some d) : PCall Tryz.prog 101 args d := by
  unfold q80 at h
  split at h
  · split at h
    · rename_i e0
      cases decS_some e0
      split at h
      · cases h; exact index_c _ _ (by assumption)
      · cases h
    · cases h
  · cases h

theorem q80_eq (l : List (List UInt8)) (v : List UInt8) : q80 [.sl (encS l), .str v] = if l.length ≤ 1000000 then some (.int .i64 (idx v l 0)) else none := by simp only [q80, decS_enc]
def tb80 : Tab := tb75.addQ 101 q80
theorem tb80_q (g : FuncId) (args : List D) : tb80.q g args = if g = 101 then q80 args else tb75.q g args := rfl
theorem tb80_a : tb80.a = tb75.a := rfl
theorem tb80_c : tb80.c = tb75.c := rfl
theorem tb80_ok : tb80.ok Tryz.prog := Tab.addQ_ok tb75_ok q80_ok
theorem tb80_e : type_of% (And.intro (And.intro @tb80_q (And.intro @tb80_a @tb80_c)) @tb75_e) := (And.intro (And.intro @tb80_q (And.intro @tb80_a @tb80_c)) @tb75_e)

theorem contains_c (l : List (List UInt8)) (v : List UInt8) (hl : l.length ≤ 1000000) : PCall Tryz.prog 81 [.sl (encS l), .str v] (.bool (l.contains v)) := by
  refine PCall.run tb80_ok st64 (by simp) fun E => ?_
  have g : (l.length ≤ 1000000) = True := by simp; omega
  simp only [s64, q80_eq, idx_mem, g, tb80_e, zz, zzN, zzF, zzD, zzM, cond_true, cond_false, seval]
def q64 : List D → Option D
  | [.sl l', .str v] => match decS l' with
    | some l => if l.length ≤ 1000000 then some (.bool (l.contains v)) else none
    | _ => none
  | _ => none
theorem q64_ok (args : List D) (d : D) (h : q64 args = some d) : PCall Tryz.prog 81 args d := by
  unfold q64 at h
  split at h
  · split at h
    · rename_i e0
      cases decS_some e0
      split at h
      · cases h; exact contains_c _ _ (by assumption)
      · cases h
    · cases h
  · cases h

theorem q64_eq (l : List (List UInt8)) (v : List UInt8) : q64 [.sl (encS l), .str v] = if l.length ≤ 1000000 then some (.bool (l.contains v)) else none := by simp only [q64, decS_enc]
def tb64 : Tab := tb80.addQ 81 q64
theorem tb64_q (g : FuncId) (args : List D) : tb64.q g args = if g = 81 then q64 args else tb80.q g args := rfl
theorem tb64_a : tb64.a = tb80.a := rfl
theorem tb64_c : tb64.c = tb80.c := rfl
theorem tb64_ok : tb64.ok Tryz.prog := Tab.addQ_ok tb80_ok q64_ok
theorem tb64_e : type_of% (And.intro (And.intro @tb64_q (And.intro @tb64_a @tb64_c)) @tb80_e) := (And.intro (And.intro @tb64_q (And.intro @tb64_a @tb64_c)) @tb80_e)

/-- The words that are kept. -/
def words : List (List UInt8) := [[102, 117, 110, 99], [116, 101, 115, 116], [118, 97, 114], [105, 102], [101, 108, 115, 101], [102, 111, 114], [114, 101, 116, 117, 114, 110], [97, 115, 115, 101, 114, 116], [115, 107, 105, 112], [116, 114, 117, 101], [102, 97, 108, 115, 101], [105, 110, 116], [102, 108, 111, 97, 116], [98, 111, 111, 108]]
theorem words_c : PCall Tryz.prog 82 [] (.sl (encS words)) := by
  refine PCall.run tb64_ok st65 (by simp) fun E => ?_
  simp only [s65, words, encS, tb64_e, zz, zzN, zzF, zzD, zzM, cond_true, cond_false, seval]
def q65 : List D → Option D
  | [] => if True then some (.sl (encS words)) else none
  | _ => none
theorem q65_ok (args : List D) (d : D) (h : q65 args = some d) : PCall Tryz.prog 82 args d := by
  unfold q65 at h
  split at h
  · split at h
    · cases h; exact words_c
    · cases h
  · cases h

def tb65 : Tab := tb64.addQ 82 q65
theorem tb65_q (g : FuncId) (args : List D) : tb65.q g args = if g = 82 then q65 args else tb64.q g args := rfl
theorem tb65_a : tb65.a = tb64.a := rfl
theorem tb65_c : tb65.c = tb64.c := rfl
theorem tb65_ok : tb65.ok Tryz.prog := Tab.addQ_ok tb64_ok q65_ok
theorem tb65_e : type_of% (And.intro (And.intro @tb65_q (And.intro @tb65_a @tb65_c)) @tb64_e) := (And.intro (And.intro @tb65_q (And.intro @tb65_a @tb65_c)) @tb64_e)

theorem word_c (s : List UInt8) : PCall Tryz.prog 58 [.str s] (.bool (words.contains s)) := by
  refine PCall.run tb65_ok st40 (by simp) fun E => ?_
  have g : (words.length ≤ 1000000) = True := by simp [words]
  simp only [s40, q64_eq, q65, g, tb65_e, zz, zzN, zzF, zzD, zzM, cond_true, cond_false, seval]
def q40 : List D → Option D
  | [.str s] => if True then some (.bool (words.contains s)) else none
  | _ => none
theorem q40_ok (args : List D) (d : D) (h : q40 args = some d) : PCall Tryz.prog 58 args d := by
  unfold q40 at h
  split at h
  · split at h
    · cases h; exact word_c _
    · cases h
  · cases h

def tb40 : Tab := tb65.addQ 58 q40
theorem tb40_q (g : FuncId) (args : List D) : tb40.q g args = if g = 58 then q40 args else tb65.q g args := rfl
theorem tb40_a : tb40.a = tb65.a := rfl
theorem tb40_c : tb40.c = tb65.c := rfl
theorem tb40_ok : tb40.ok Tryz.prog := Tab.addQ_ok tb65_ok q40_ok
theorem tb40_e : type_of% (And.intro (And.intro @tb40_q (And.intro @tb40_a @tb40_c)) @tb65_e) := (And.intro (And.intro @tb40_q (And.intro @tb40_a @tb40_c)) @tb65_e)


/-- Are digits a number up to 2^63 - 1, without a 0 ahead? -/
def mxL : List UInt8 := [57, 50, 50, 51, 51, 55, 50, 48, 51, 54, 56, 53, 52, 55, 55, 53, 56, 48, 55]
def wholeL (s : List UInt8) : Bool := !(decide (1 < s.length) && ((s.getD 0 0).toNat : Int) == 48 || decide (19 < s.length)) && (decide (s.length < 19) || (Op.bytesLess s mxL || s == mxL))
theorem whole_c (s : List UInt8) : PCall Tryz.prog 80 [.str s] (.bool (wholeL s)) := by
  refine PCall.run tb40_ok st85 (by simp) fun E => ?_
  simp only [s85, strEv, tb40_e, zz, zzN, zzF, zzD, zzM, cond_true, cond_false, seval]
  simp only [or_self, wholeL, mxL]
  intro _
  by_cases c1 : 1 < s.length
  · have g1 : (s.length : Int) > 1 := by omega
    rw [if_pos g1]
    refine ⟨by omega, ?_⟩
    by_cases c2 : (((s.getD 0 0).toNat : Int) == 48) = true
    · rw [if_pos c2]; simp only [c1, c2]; simp
    · rw [if_neg c2]
      have c2' : (((s.getD 0 0).toNat : Int) == 48) = false := by simpa using c2
      intro _
      by_cases c3 : (s.length : Int) > 19
      · have c3' : 19 < s.length := by omega
        rw [if_pos c3]; simp [c3']
      · have c3' : ¬ 19 < s.length := by omega
        rw [if_neg c3]
        intro _
        by_cases c4 : (s.length : Int) < 19
        · have c4' : s.length < 19 := by omega
          rw [if_pos c4]; simp only [c2', c3', c4']; simp
        · have c4' : ¬ s.length < 19 := by omega
          rw [if_neg c4]; simp only [c2', c3', c4']; simp
  · have g1 : ¬ (s.length : Int) > 1 := by omega
    have c3' : ¬ 19 < s.length := by omega
    have c4' : s.length < 19 := by omega
    rw [if_neg g1]
    intro _
    rw [if_neg (by omega)]
    intro _
    rw [if_pos (by omega)]
    simp only [c1, c3', c4']; simp
def q85 : List D → Option D
  | [.str s] => if True then some (.bool (wholeL s)) else none
  | _ => none
theorem q85_ok (args : List D) (d : D) (h : q85 args = some d) : PCall Tryz.prog 80 args d := by
  unfold q85 at h
  split at h
  · split at h
    · cases h; exact whole_c _
    · cases h
  · cases h

def tb85 : Tab := tb40.addQ 80 q85
theorem tb85_q (g : FuncId) (args : List D) : tb85.q g args = if g = 80 then q85 args else tb40.q g args := rfl
theorem tb85_a : tb85.a = tb40.a := rfl
theorem tb85_c : tb85.c = tb40.c := rfl
theorem tb85_ok : tb85.ok Tryz.prog := Tab.addQ_ok tb40_ok q85_ok
theorem tb85_e : type_of% (And.intro (And.intro @tb85_q (And.intro @tb85_a @tb85_c)) @tb40_e) := (And.intro (And.intro @tb85_q (And.intro @tb85_a @tb85_c)) @tb40_e)


/-- Spaces and notes from the front on. -/
def isSp (c : UInt8) : Bool := (c.toNat : Int) == 32 || (c.toNat : Int) == 9 || (c.toNat : Int) == 10
def blankN : Nat → List UInt8 → Nat
  | 0, _ => 0
  | _ + 1, [] => 0
  | n + 1, c :: t => if isSp c = true then 1 + blankN n t else if pre (c :: t) [47, 47] = true then spn (fun n => n != 10) (c :: t) + blankN n ((c :: t).drop (spn (fun n => n != 10) (c :: t))) else 0
def blankL (l : List UInt8) : Nat := blankN l.length l
theorem pre_note {c : UInt8} {t : List UInt8} (h : pre (c :: t) [47, 47] = true) : 0 < spn (fun n => n != 10) (c :: t) := by
  have e : c = 47 := by
    cases t with
    | nil => simp [pre] at h
    | cons d t => simp [pre] at h; exact h.1
  subst e
  rw [spn_cons, if_pos (by decide)]
  omega
theorem blankN_fuel : ∀ (n m : Nat) (l : List UInt8), l.length ≤ n → l.length ≤ m → blankN n l = blankN m l
  | 0, 0, l, _, _ => rfl
  | 0, m + 1, [], _, _ => rfl
  | n + 1, 0, [], _, _ => rfl
  | n + 1, m + 1, [], _, _ => rfl
  | 0, _, c :: t, h, _ => by simp at h
  | _, 0, c :: t, _, h => by simp at h
  | n + 1, m + 1, c :: t, h1, h2 => by
    simp only [List.length_cons] at h1 h2
    simp only [blankN]
    split
    · rw [blankN_fuel n m t (by omega) (by omega)]
    · split
      · rename_i hp
        have := pre_note hp
        rw [blankN_fuel n m _ (by simp; omega) (by simp; omega)]
      · rfl
theorem blankL_nil : blankL [] = 0 := rfl
theorem blankL_cons (c : UInt8) (t : List UInt8) : blankL (c :: t) = if isSp c = true then 1 + blankL t else if pre (c :: t) [47, 47] = true then spn (fun n => n != 10) (c :: t) + blankL ((c :: t).drop (spn (fun n => n != 10) (c :: t))) else 0 := by
  show blankN (t.length + 1) (c :: t) = _
  simp only [blankN]
  split
  · rfl
  · split
    · rename_i hp
      have := pre_note hp
      rw [blankN_fuel t.length _ _ (by simp; omega) (Nat.le_refl _)]
      rfl
    · rfl
theorem blankN_le : ∀ (n : Nat) (l : List UInt8), blankN n l ≤ l.length
  | 0, l => by simp [blankN]
  | n + 1, [] => by simp [blankN]
  | n + 1, c :: t => by
    simp only [blankN]
    have h1 := blankN_le n t
    have h2 := blankN_le n ((c :: t).drop (spn (fun n => n != 10) (c :: t)))
    have h3 := spn_le (fun n => n != 10) (c :: t)
    simp only [List.length_drop, List.length_cons] at h2 h3 ⊢
    split
    · omega
    · split <;> omega
theorem blankL_le (l : List UInt8) : blankL l ≤ l.length := blankN_le _ _
theorem blank_c (s : List UInt8) (a : Nat) (h1 : a ≤ s.length) (h2 : s.length ≤ 1000000) : PCall Tryz.prog 30 [.str s, .int .i64 a] (.int .i64 (blankL (s.drop a))) := by
  refine PCall.run tb85_ok st50 (by simp) fun E => ?_
  simp only [s50, tb85_e, zz, zzN, zzF, zzD, zzM, cond_true, cond_false, seval]
  refine run_loop (X := Nat) (fun i => [(0, .str s), (1, .int .i64 i), (5, .int .i64 a)]) (fun _ => AHeap.emp) (fun i => s.length - i)
    (fun i => a ≤ i ∧ i ≤ s.length ∧ (i - a) + blankL (s.drop i) = blankL (s.drop a)) a (by simp; omega) ?_ (AHeap.sub_refl _) ?_
  · simp only [zz, zzN, zzF, zzD, zzM, cond_true, cond_false, seval]
  · rintro i Q ⟨i0, i1, i2⟩ hQ
    have wi : IntKind.i64.wrap ((i : Int) + 1) = ((i + 1 : Nat) : Int) := wrap_succ (by omega)
    have ws : IntKind.i64.wrap ((i : Int) - (a : Int)) = ((i - a : Nat) : Int) := by rw [wrap_i64 (by omega) (by omega)]; omega
    by_cases c1 : i < s.length
    · have g1 : ((i : Int) < (s.length : Int)) = True := by simp; omega
      have g2 : (s.length ≤ 1000000) = True := by simp; omega
      have g3 : ((i : Int) ≤ 1000000) = True := by simp; omega
      have g0 : (0 ≤ (i : Int)) = True := by simp
      have ts : (s.drop i).take (s.length - i) = s.drop i := List.take_of_length_le (by simp)
      have hl := spn_le (fun n => n != 10) (s.drop i)
      have wn : IntKind.i64.wrap ((i : Int) + (spn (fun n => n != 10) (s.drop i) : Int)) = ((i + spn (fun n => n != 10) (s.drop i) : Nat) : Int) := wrap_add (by simp at hl; omega)
      simp only [g0, g1, g2, g3, wi, ws, wn, ts, q74, q75, isByteP, decide_true, tb85_e, zz, zzN, zzF, zzD, zzM, cond_true, cond_false, seval]
      rw [drop_cons c1, blankL_cons] at i2
      rw [← drop_cons c1] at i2
      have sp : ∀ (σ : Fr) (h : isSp (s.getD i 0) = true), leL [(0, .str s), (1, .int .i64 (i + 1 : Nat)), (5, .int .i64 a)] σ → Q σ AHeap.emp := fun σ h hs => by
        rw [if_pos h] at i2
        exact hQ (i + 1) _ _ ⟨by omega, by omega, by omega⟩ hs (AHeap.sub_refl _) (by omega)
      intro _
      split
      · rename_i e
        refine sp _ (by simp [isSp]; simp at e; simp [e]) ?_
        simp only [zz, zzN, zzF, zzD, zzM, cond_true, cond_false, seval]
      · rename_i e1
        split
        · rename_i e
          refine sp _ (by simp [isSp]; simp at e; simp [e]) ?_
          simp only [zz, zzN, zzF, zzD, zzM, cond_true, cond_false, seval]
        · rename_i e2
          split
          · rename_i e
            refine sp _ (by simp [isSp]; simp at e; simp [e]) ?_
            simp only [zz, zzN, zzF, zzD, zzM, cond_true, cond_false, seval]
          · rename_i e3
            refine ⟨by omega, ?_⟩
            have hsp : isSp (s.getD i 0) = false := by
              simp only [isSp]
              simp only [Bool.not_eq_true] at e1 e2 e3
              rw [e1, e2, e3]; rfl
            rw [if_neg (by rw [hsp]; exact Bool.false_ne_true)] at i2
            split
            · rename_i hp
              rw [if_pos hp] at i2
              have := pre_note (c := s.getD i 0) (t := s.drop (i + 1)) (by rw [← drop_cons c1]; exact hp)
              rw [← drop_cons c1] at this
              rw [List.drop_drop] at i2
              rw [List.length_drop] at hl
              refine hQ (i + spn (fun n => n != 10) (s.drop i)) _ _ ⟨by omega, by omega, by omega⟩ ?_ (AHeap.sub_refl _) (by omega)
              simp only [zz, zzN, zzF, zzD, zzM, cond_true, cond_false, seval]
            · rename_i hp
              rw [if_neg hp] at i2
              exact .inl (by omega)
    · have g1 : ((i : Int) < (s.length : Int)) = False := by simp; omega
      have e : s.drop i = [] := List.drop_of_length_le (by omega)
      rw [e, blankL_nil] at i2
      simp only [g1, ws, decide_false, tb85_e, zz, zzN, zzF, zzD, zzM, cond_true, cond_false, seval]
      exact fun _ => .inl (by omega)
theorem blank_c' (s : List UInt8) (a : Int) (h : 0 ≤ a ∧ a ≤ s.length ∧ s.length ≤ 1000000) : PCall Tryz.prog 30 [.str s, .int .i64 a] (.int .i64 (blankL (s.drop a.toNat))) := by
  have := blank_c s a.toNat (by omega) h.2.2
  rwa [Int.toNat_of_nonneg h.1] at this
def q50 : List D → Option D
  | [.str s, .int .i64 a] => if 0 ≤ a ∧ a ≤ s.length ∧ s.length ≤ 1000000 then some (.int .i64 (blankL (s.drop a.toNat))) else none
  | _ => none
theorem q50_ok (args : List D) (d : D) (h : q50 args = some d) : PCall Tryz.prog 30 args d := by
  unfold q50 at h
  split at h
  · split at h
    · cases h; exact blank_c' _ _ (by assumption)
    · cases h
  · cases h

def tb50 : Tab := tb85.addQ 30 q50
theorem tb50_q (g : FuncId) (args : List D) : tb50.q g args = if g = 30 then q50 args else tb85.q g args := rfl
theorem tb50_a : tb50.a = tb85.a := rfl
theorem tb50_c : tb50.c = tb85.c := rfl
theorem tb50_ok : tb50.ok Tryz.prog := Tab.addQ_ok tb85_ok q50_ok
theorem tb50_e : type_of% (And.intro (And.intro @tb50_q (And.intro @tb50_a @tb50_c)) @tb85_e) := (And.intro (And.intro @tb50_q (And.intro @tb50_a @tb50_c)) @tb85_e)

end Go.Proofs.YtpagdhbmbnoddaaGreatDoor.Zz
/- Contracts: lex: a word, all words. -/
namespace Go.Proofs.YtpagdhbmbnoddaaGreatDoor.Zz
set_option linter.unusedVariables false
set_option linter.unusedSimpArgs false
set_option maxRecDepth 20000
def p77 : Plan := ⟨⟨[], [], [], [], [], []⟩, [(5, [0, 1, 2, 3, 4, 5, 6, 7, 8, 9, 10, 11, 12]), (9, [0, 1, 2, 3, 4, 5])], [], false⟩
/-- cupel/lex.number (2 parameters, 0 captured) -/
def s77 : Stm :=
 .seq (.ops [⟨.alloc [(.int .i64 0), (.str []), (.int .i64 0)], (some 4), none, false⟩,
 ⟨.mov (.c (.bool false)), (some 5), none, true⟩])
 (.seq (.ops [⟨.mov (.t 0), (some 9), none, true⟩,
 ⟨.mov (.t 1), (some 10), none, true⟩,
 ⟨.qcall (.f 52) [(.t 9), (.t 10), (.f 54)], (some 11), none, false⟩,
 ⟨.mov (.t 11), (some 6), none, true⟩])
 (.seq (.ops [⟨.mov (.t 0), (some 12), none, true⟩,
 ⟨.mov (.t 1), (some 13), none, true⟩,
 ⟨.mov (.t 1), (some 14), none, true⟩,
 ⟨.mov (.t 6), (some 15), none, true⟩,
 ⟨.bin .add (.t 14) (.t 15), (some 16), none, true⟩,
 ⟨.slice .str (.t 12) (some (.t 13)) (some (.t 16)) none, (some 17), none, false⟩,
 ⟨.mov (.t 1), (some 18), none, true⟩,
 ⟨.build [(.int .i64 0), (.str []), (.int .i64 0)] [(0, 1, (.c (.int .i64 2))), (1, 1, (.t 17)), (2, 1, (.t 18))], (some 19), none, true⟩,
 ⟨.alloc [(.int .i64 0), (.str []), (.int .i64 0)], (some 7), none, false⟩,
 ⟨.store 3 (.t 7) (.t 19), none, none, false⟩])
 (.seq (.seq (.ops [⟨.mov (.t 1), (some 20), none, true⟩,
 ⟨.mov (.t 6), (some 21), none, true⟩,
 ⟨.bin .add (.t 20) (.t 21), (some 22), none, true⟩,
 ⟨.mov (.t 0), (some 23), none, true⟩,
 ⟨.len .str (.t 23), (some 24), none, false⟩,
 ⟨.bin .lss (.t 22) (.t 24), (some 25), none, true⟩,
 ⟨.mov (.t 25), (some 26), none, true⟩,
 ⟨.mov (.t 0), (some 27), (some (26, true)), true⟩,
 ⟨.mov (.t 1), (some 28), (some (26, true)), true⟩,
 ⟨.mov (.t 6), (some 29), (some (26, true)), true⟩,
 ⟨.bin .add (.t 28) (.t 29), (some 30), (some (26, true)), true⟩,
 ⟨.indexS (.t 27) (.t 30), (some 31), (some (26, true)), true⟩,
 ⟨.bin .eql (.t 31) (.c (.int .u8 46)), (some 32), (some (26, true)), true⟩,
 ⟨.pick (.t 26) (.t 32) (.c (.bool false)), (some 33), none, true⟩])
 (.cond (.t 33)
 (.seq (.ops [⟨.mov (.t 0), (some 34), none, true⟩,
 ⟨.mov (.t 1), (some 35), none, true⟩,
 ⟨.mov (.t 6), (some 36), none, true⟩,
 ⟨.bin .add (.t 35) (.t 36), (some 37), none, true⟩,
 ⟨.bin .add (.t 37) (.c (.int .i64 1)), (some 38), none, true⟩,
 ⟨.qcall (.f 52) [(.t 34), (.t 38), (.f 54)], (some 39), none, false⟩,
 ⟨.mov (.t 39), (some 8), none, true⟩])
 (.seq (.opsD [⟨.mov (.t 0), (some 40), none, true⟩,
 ⟨.mov (.t 1), (some 41), none, true⟩,
 ⟨.mov (.t 1), (some 42), none, true⟩,
 ⟨.mov (.t 6), (some 43), none, true⟩,
 ⟨.bin .add (.t 42) (.t 43), (some 44), none, true⟩,
 ⟨.bin .add (.t 44) (.c (.int .i64 1)), (some 45), none, true⟩,
 ⟨.mov (.t 8), (some 46), none, true⟩,
 ⟨.bin .add (.t 45) (.t 46), (some 47), none, true⟩,
 ⟨.slice .str (.t 40) (some (.t 41)) (some (.t 47)) none, (some 48), none, true⟩,
 ⟨.fieldAddr 0 (.t 7), (some 49), none, true⟩,
 ⟨.store 1 (.t 49) (.c (.int .i64 3)), none, none, false⟩,
 ⟨.fieldAddr 1 (.t 7), (some 50), none, true⟩,
 ⟨.store 1 (.t 50) (.t 48), none, none, false⟩])
 (.seq (.seq (.ops [⟨.mov (.t 8), (some 51), none, true⟩,
 ⟨.bin .eql (.t 51) (.c (.int .i64 0)), (some 52), none, true⟩,
 ⟨.mov (.t 52), (some 53), none, true⟩,
 ⟨.mov (.t 6), (some 54), (some (53, false)), true⟩,
 ⟨.mov (.t 8), (some 55), (some (53, false)), true⟩,
 ⟨.bin .add (.t 54) (.t 55), (some 56), (some (53, false)), true⟩,
 ⟨.bin .gtr (.t 56) (.c (.int .i64 15)), (some 57), (some (53, false)), true⟩,
 ⟨.pick (.t 53) (.c (.bool true)) (.t 57), (some 58), none, true⟩])
 (.cond (.t 58)
 (.seq (.ops [⟨.load (some 3) (.t 7), (some 59), none, false⟩,
 ⟨.store 3 (.t 4) (.t 59), none, none, false⟩,
 ⟨.mov (.c (.bool false)), (some 5), none, true⟩])
 (.ret))
 (.skip)))
 (.seq (.ops [⟨.load (some 3) (.t 7), (some 60), none, false⟩,
 ⟨.store 3 (.t 4) (.t 60), none, none, false⟩,
 ⟨.mov (.c (.bool true)), (some 5), none, true⟩])
 (.ret)))))
 (.skip)))
 (.seq (.opsD [⟨.load (some 3) (.t 7), (some 61), none, false⟩,
 ⟨.fieldAddr 1 (.t 7), (some 62), none, true⟩,
 ⟨.load none (.t 62), (some 63), none, false⟩,
 ⟨.qcall (.f 80) [(.t 63)], (some 64), none, false⟩,
 ⟨.store 3 (.t 4) (.t 61), none, none, false⟩,
 ⟨.mov (.t 64), (some 5), none, true⟩])
 (.ret)))))
theorem st77 : stmOf Tryz.prog 55 p77 = some (s77, [.cell 4 (some 3), .tmp 5], 65) := by kernel_rfl

def p79 : Plan := ⟨⟨[], [], [], [], [], []⟩, [], [], false⟩
/-- cupel/lex.signs (0 parameters, 0 captured) -/
def s79 : Stm :=
 .seq (.ops [⟨.mov (.c .nilsl), (some 0), none, true⟩])
 (.seq (.ops [⟨.buildSlice 1 [(.str [])] 22 [(0, (.c (.str [58, 61]))), (1, (.c (.str [60, 61]))), (2, (.c (.str [62, 61]))), (3, (.c (.str [61, 61]))), (4, (.c (.str [33, 61]))), (5, (.c (.str [38, 38]))), (6, (.c (.str [124, 124]))), (7, (.c (.str [40]))), (8, (.c (.str [41]))), (9, (.c (.str [123]))), (10, (.c (.str [125]))), (11, (.c (.str [44]))), (12, (.c (.str [59]))), (13, (.c (.str [61]))), (14, (.c (.str [43]))), (15, (.c (.str [45]))), (16, (.c (.str [42]))), (17, (.c (.str [47]))), (18, (.c (.str [37]))), (19, (.c (.str [60]))), (20, (.c (.str [62]))), (21, (.c (.str [33])))] false, (some 1), none, true⟩,
 ⟨.mov (.t 1), (some 0), none, true⟩])
 (.ret))
theorem st79 : stmOf Tryz.prog 59 p79 = some (s79, [.tmp 0], 2) := by kernel_rfl

def p51 : Plan := ⟨⟨[], [], [], [], [], []⟩, [], [], false⟩
/-- cupel/lex.one (2 parameters, 0 captured) -/
def s51 : Stm :=
 .seq (.ops [⟨.alloc [(.int .i64 0), (.str []), (.int .i64 0)], (some 4), none, false⟩,
 ⟨.mov (.c (.bool false)), (some 5), none, true⟩])
 (.seq (.seq (.ops [⟨.mov (.t 0), (some 10), none, true⟩,
 ⟨.mov (.t 1), (some 11), none, true⟩,
 ⟨.indexS (.t 10) (.t 11), (some 12), none, true⟩,
 ⟨.mov (.t 12), (some 6), none, true⟩])
 (.block 0 (.seq (.ops [⟨.mov (.t 6), (some 14), none, true⟩,
 ⟨.qcall (.f 54) [(.t 14)], (some 15), none, false⟩,
 ⟨.mov (.t 15), (some 13), none, true⟩])
 (.cond (.t 13)
 (.seq (.ops [⟨.mov (.t 0), (some 16), none, true⟩,
 ⟨.mov (.t 1), (some 17), none, true⟩,
 ⟨.qcall (.f 55) [(.t 16), (.t 17)], (some 18), none, false⟩,
 ⟨.extract (.t 18) 0, (some 19), none, true⟩,
 ⟨.extract (.t 18) 1, (some 20), none, true⟩,
 ⟨.store 3 (.t 4) (.t 19), none, none, false⟩,
 ⟨.mov (.t 20), (some 5), none, true⟩])
 (.ret))
 (.seq (.ops [⟨.mov (.t 6), (some 22), none, true⟩,
 ⟨.qcall (.f 56) [(.t 22)], (some 23), none, false⟩,
 ⟨.mov (.t 23), (some 21), none, true⟩])
 (.cond (.t 21)
 (.seq (.ops [⟨.mov (.t 0), (some 24), none, true⟩,
 ⟨.mov (.t 1), (some 25), none, true⟩,
 ⟨.mov (.t 1), (some 26), none, true⟩,
 ⟨.mov (.t 0), (some 27), none, true⟩,
 ⟨.mov (.t 1), (some 28), none, true⟩,
 ⟨.qcall (.f 52) [(.t 27), (.t 28), (.f 57)], (some 29), none, false⟩,
 ⟨.bin .add (.t 26) (.t 29), (some 30), none, true⟩,
 ⟨.slice .str (.t 24) (some (.t 25)) (some (.t 30)) none, (some 31), none, false⟩,
 ⟨.mov (.t 31), (some 7), none, true⟩])
 (.seq (.seq (.ops [⟨.mov (.t 7), (some 32), none, true⟩,
 ⟨.qcall (.f 58) [(.t 32)], (some 33), none, false⟩])
 (.cond (.t 33)
 (.seq (.ops [⟨.mov (.t 7), (some 34), none, true⟩,
 ⟨.mov (.t 1), (some 35), none, true⟩,
 ⟨.build [(.int .i64 0), (.str []), (.int .i64 0)] [(0, 1, (.c (.int .i64 4))), (1, 1, (.t 34)), (2, 1, (.t 35))], (some 36), none, true⟩,
 ⟨.store 3 (.t 4) (.t 36), none, none, false⟩,
 ⟨.mov (.c (.bool true)), (some 5), none, true⟩])
 (.ret))
 (.skip)))
 (.seq (.ops [⟨.mov (.t 7), (some 37), none, true⟩,
 ⟨.mov (.t 1), (some 38), none, true⟩,
 ⟨.build [(.int .i64 0), (.str []), (.int .i64 0)] [(0, 1, (.c (.int .i64 1))), (1, 1, (.t 37)), (2, 1, (.t 38))], (some 39), none, true⟩,
 ⟨.mov (.t 7), (some 40), none, true⟩,
 ⟨.len .str (.t 40), (some 41), none, false⟩,
 ⟨.bin .leq (.t 41) (.c (.int .i64 16)), (some 42), none, true⟩,
 ⟨.store 3 (.t 4) (.t 39), none, none, false⟩,
 ⟨.mov (.t 42), (some 5), none, true⟩])
 (.ret))))
 (.skip)))))))
 (.seq (.seq (.ops [⟨.qcall (.f 59) [], (some 43), none, false⟩,
 ⟨.len .sl (.t 43), (some 44), none, false⟩,
 ⟨.mov (.c (.int .i64 0)), (some 45), none, true⟩])
 (.block 1 (.loop (.seq (.ops [⟨.bin .lss (.t 45) (.t 44), (some 46), none, true⟩])
 (.seq (.cond (.t 46)
 (.skip)
 (.exit 1))
 (.seq (.block 2 (.seq (.ops [⟨.indexAddrS 1 (.t 43) (.t 45), (some 47), none, false⟩,
 ⟨.load none (.t 47), (some 48), none, false⟩,
 ⟨.mov (.t 48), (some 9), none, true⟩])
 (.seq (.ops [⟨.mov (.t 0), (some 49), none, true⟩,
 ⟨.mov (.t 1), (some 50), none, true⟩,
 ⟨.slice .str (.t 49) (some (.t 50)) none none, (some 51), none, false⟩,
 ⟨.mov (.t 9), (some 52), none, true⟩,
 ⟨.qcall (.f 51) [(.t 51), (.t 52)], (some 53), none, false⟩])
 (.cond (.t 53)
 (.seq (.ops [⟨.mov (.t 9), (some 54), none, true⟩,
 ⟨.mov (.t 1), (some 55), none, true⟩,
 ⟨.build [(.int .i64 0), (.str []), (.int .i64 0)] [(0, 1, (.c (.int .i64 5))), (1, 1, (.t 54)), (2, 1, (.t 55))], (some 56), none, true⟩,
 ⟨.store 3 (.t 4) (.t 56), none, none, false⟩,
 ⟨.mov (.c (.bool true)), (some 5), none, true⟩])
 (.ret))
 (.skip)))))
 (.ops [⟨.bin .add (.t 45) (.c (.int .i64 1)), (some 57), none, true⟩,
 ⟨.mov (.t 57), (some 45), none, true⟩])))))))
 (.seq (.ops [⟨.build [(.int .i64 0), (.str []), (.int .i64 0)] [], (some 58), none, true⟩,
 ⟨.store 3 (.t 4) (.t 58), none, none, false⟩,
 ⟨.mov (.c (.bool false)), (some 5), none, true⟩])
 (.ret))))
theorem st51 : stmOf Tryz.prog 31 p51 = some (s51, [.cell 4 (some 3), .tmp 5], 59) := by kernel_rfl

def p23 : Plan := ⟨⟨[], [], [], [], [], []⟩, [], [], false⟩
/-- cupel/lex.Tokens (1 parameters, 0 captured) -/
def s23 : Stm :=
 .seq (.ops [⟨.mov (.c .nilsl), (some 2), none, true⟩,
 ⟨.mov (.c (.int .i64 0)), (some 3), none, true⟩,
 ⟨.mov (.c (.int .i64 0)), (some 4), none, true⟩])
 (.seq (.seq (.ops [⟨.mov (.t 0), (some 9), none, true⟩,
 ⟨.len .str (.t 9), (some 10), none, false⟩,
 ⟨.bin .gtr (.t 10) (.c (.int .i64 4096)), (some 11), none, true⟩])
 (.cond (.t 11)
 (.seq (.ops [⟨.mov (.c .nilsl), (some 2), none, true⟩,
 ⟨.mov (.c (.int .i64 4096)), (some 3), none, true⟩,
 ⟨.mov (.c (.int .i64 3)), (some 4), none, true⟩])
 (.ret))
 (.skip)))
 (.seq (.ops [⟨.mov (.c .nilsl), (some 5), none, true⟩])
 (.seq (.ops [⟨.mov (.t 0), (some 12), none, true⟩,
 ⟨.qcall (.f 30) [(.t 12), (.c (.int .i64 0))], (some 13), none, false⟩,
 ⟨.mov (.t 13), (some 6), none, true⟩])
 (.seq (.block 0 (.loop (.seq (.seq (.ops [⟨.mov (.t 6), (some 14), none, true⟩,
 ⟨.mov (.t 0), (some 15), none, true⟩,
 ⟨.len .str (.t 15), (some 16), none, false⟩,
 ⟨.bin .lss (.t 14) (.t 16), (some 17), none, true⟩])
 (.cond (.t 17)
 (.skip)
 (.exit 0)))
 (.block 1 (.seq (.ops [⟨.mov (.t 0), (some 19), none, true⟩,
 ⟨.mov (.t 6), (some 20), none, true⟩,
 ⟨.qcall (.f 31) [(.t 19), (.t 20)], (some 21), none, false⟩,
 ⟨.mov (.t 21), (some 18), none, true⟩,
 ⟨.extract (.t 18) 0, (some 22), none, true⟩,
 ⟨.extract (.t 18) 1, (some 23), none, true⟩,
 ⟨.alloc [(.int .i64 0), (.str []), (.int .i64 0)], (some 7), none, false⟩,
 ⟨.store 3 (.t 7) (.t 22), none, none, false⟩,
 ⟨.mov (.t 23), (some 8), none, true⟩])
 (.seq (.seq (.ops [⟨.mov (.t 8), (some 24), none, true⟩,
 ⟨.un .not (.t 24), (some 25), none, true⟩])
 (.cond (.t 25)
 (.seq (.ops [⟨.mov (.t 6), (some 26), none, true⟩,
 ⟨.mov (.c .nilsl), (some 2), none, true⟩,
 ⟨.mov (.t 26), (some 3), none, true⟩,
 ⟨.mov (.c (.int .i64 90)), (some 4), none, true⟩])
 (.ret))
 (.skip)))
 (.seq (.ops [⟨.mov (.t 5), (some 27), none, true⟩,
 ⟨.load (some 3) (.t 7), (some 28), none, false⟩,
 ⟨.buildSlice 3 [(.int .i64 0), (.str []), (.int .i64 0)] 1 [(0, (.t 28))] false, (some 29), none, true⟩,
 ⟨.append 3 32 false (.t 27) (.t 29), (some 30), none, false⟩,
 ⟨.mov (.t 30), (some 5), none, true⟩])
 (.seq (.ops [⟨.mov (.t 6), (some 31), none, true⟩,
 ⟨.fieldAddr 1 (.t 7), (some 32), none, true⟩,
 ⟨.load none (.t 32), (some 33), none, false⟩,
 ⟨.len .str (.t 33), (some 34), none, false⟩,
 ⟨.bin .add (.t 31) (.t 34), (some 35), none, true⟩,
 ⟨.mov (.t 35), (some 6), none, true⟩])
 (.ops [⟨.mov (.t 6), (some 36), none, true⟩,
 ⟨.mov (.t 0), (some 37), none, true⟩,
 ⟨.mov (.t 6), (some 38), none, true⟩,
 ⟨.qcall (.f 30) [(.t 37), (.t 38)], (some 39), none, false⟩,
 ⟨.bin .add (.t 36) (.t 39), (some 40), none, true⟩,
 ⟨.mov (.t 40), (some 6), none, true⟩])))))))))
 (.seq (.ops [⟨.mov (.t 5), (some 41), none, true⟩,
 ⟨.mov (.t 0), (some 42), none, true⟩,
 ⟨.len .str (.t 42), (some 43), none, false⟩,
 ⟨.build [(.int .i64 0), (.str []), (.int .i64 0)] [(0, 1, (.c (.int .i64 0))), (2, 1, (.t 43))], (some 44), none, true⟩,
 ⟨.buildSlice 3 [(.int .i64 0), (.str []), (.int .i64 0)] 1 [(0, (.t 44))] false, (some 45), none, true⟩,
 ⟨.append 3 32 false (.t 41) (.t 45), (some 46), none, false⟩,
 ⟨.mov (.t 46), (some 2), none, true⟩,
 ⟨.mov (.c (.int .i64 0)), (some 3), none, true⟩,
 ⟨.mov (.c (.int .i64 0)), (some 4), none, true⟩])
 (.ret))))))
theorem st23 : stmOf Tryz.prog 16 p23 = some (s23, [.tmp 2, .tmp 3, .tmp 4], 47) := by kernel_rfl


/-- The number at the front: its kind, its bytes, whether it may be. -/
def numL (l : List UInt8) : Int × List UInt8 × Bool :=
  if decide (spn isDigit l < l.length) && ((l.getD (spn isDigit l) 0).toNat : Int) == 46 then
    (3, l.take (spn isDigit l + 1 + spn isDigit (l.drop (spn isDigit l + 1))), !(decide (spn isDigit (l.drop (spn isDigit l + 1)) = 0) || decide (15 < spn isDigit l + spn isDigit (l.drop (spn isDigit l + 1)))))
  else (2, l.take (spn isDigit l), wholeL (l.take (spn isDigit l)))
def tokD (k : Int) (s : List UInt8) (a : Int) : List D := [.int .i64 k, .str s, .int .i64 a]

set_option maxHeartbeats 1000000 in
theorem lexNumber_c (s : List UInt8) (a : Nat) (h1 : a ≤ s.length) (h2 : s.length ≤ 100000) : PCall Tryz.prog 55 [.str s, .int .i64 a] (.tuple [.agg (tokD (numL (s.drop a)).1 (numL (s.drop a)).2.1 a), .bool (numL (s.drop a)).2.2]) := by
  refine PCall.run tb50_ok st77 (by simp) fun E => ?_
  have g2 : (s.length ≤ 1000000) = True := by simp; omega
  have g3 : ((a : Int) ≤ 1000000) = True := by simp; omega
  have g0 : (0 ≤ (a : Int)) = True := by simp
  have hl := spn_le isDigit (s.drop a)
  rw [List.length_drop] at hl
  obtain ⟨n, hn⟩ : ∃ n, n = spn isDigit (s.drop a) := ⟨_, rfl⟩
  rw [← hn] at hl
  have w1 : IntKind.i64.wrap ((a : Int) + (n : Int)) = ((a + n : Nat) : Int) := wrap_add (by omega)
  have e0 : (s.drop a).getD n 0 = s.getD (a + n) 0 := by simp [List.getD]
  have e1 : (s.drop a).drop (n + 1) = s.drop (a + n + 1) := by rw [List.drop_drop]; rfl
  have e2 : (s.drop a).length = s.length - a := by simp
  have tt : ∀ k, (s.drop a).take (a + k - a) = (s.drop a).take k := fun k => by rw [Nat.add_sub_cancel_left]
  simp only [numL, ← hn, e0, e1, e2]
  by_cases c1 : a + n < s.length
  · have g4 : (((a + n : Nat) : Int) < (s.length : Int)) = True := by simp; omega
    have g4' : (n < s.length - a) = True := by simp; omega
    cases c2 : (((s.getD (a + n) 0).toNat : Int) == 46) with
    | true =>
      obtain ⟨m, hm⟩ : ∃ m, m = spn isDigit (s.drop (a + n + 1)) := ⟨_, rfl⟩
      have hl2 := spn_le isDigit (s.drop (a + n + 1))
      rw [List.length_drop, ← hm] at hl2
      have w2 : IntKind.i64.wrap (((a + n : Nat) : Int) + 1) = ((a + n + 1 : Nat) : Int) := wrap_succ (by omega)
      have w3 : IntKind.i64.wrap (((a + n + 1 : Nat) : Int) + (m : Int)) = ((a + n + 1 + m : Nat) : Int) := wrap_add (by omega)
      have w4 : IntKind.i64.wrap ((n : Int) + (m : Int)) = ((n + m : Nat) : Int) := wrap_add (by omega)
      have g5 : (((a + n + 1 : Nat) : Int) ≤ 1000000) = True := by simp; omega
      have g6 : (0 ≤ ((a + n + 1 : Nat) : Int)) = True := by simp; omega
      have t2 : (s.drop a).take (a + n + 1 + m - a) = (s.drop a).take (n + 1 + m) := by congr 1; omega
      simp (config := {maxSteps := 1000000}) only [s77, g0, g2, g3, g4, g4', g5, g6, ← hn, ← hm, w1, w2, w3, w4, t2, c2, q75, isByteP, decide_true, tb50_e, zz, zzN, zzF, zzD, zzM, cond_true, cond_false, seval]
      intro id
      refine ⟨by omega, fun id2 f1 f2 _ => ⟨by omega, by omega, ?_⟩⟩
      simp (config := {maxSteps := 1000000}) only [f1, f2, g4, ← hn, w1, c2, t2, tt, List.take_succ_cons, List.take_zero, tokD, tb50_e, zz, zzN, zzF, zzD, zzM, cond_true, cond_false, seval]
      (repeat' split) <;> simp_all <;> omega
    | false =>
      simp (config := {maxSteps := 1000000}) only [s77, g0, g2, g3, g4, g4', ← hn, w1, c2, q75, q85, tt, isByteP, decide_true, Bool.and_false, tb50_e, zz, zzN, zzF, zzD, zzM, cond_true, cond_false, seval]
      intro id
      refine ⟨by omega, fun id2 f1 f2 _ => ⟨by omega, ?_⟩⟩
      simp (config := {maxSteps := 1000000}) only [f1, f2, g4, ← hn, w1, c2, tt, List.take_succ_cons, List.take_zero, tokD, tb50_e, zz, zzN, zzF, zzD, zzM, cond_true, cond_false, seval]
  · have g4 : (((a + n : Nat) : Int) < (s.length : Int)) = False := by simp; omega
    have g4' : (n < s.length - a) = False := by simp; omega
    simp (config := {maxSteps := 1000000}) only [s77, g0, g2, g3, g4, g4', ← hn, w1, q75, q85, tt, isByteP, decide_false, Bool.false_and, tb50_e, zz, zzN, zzF, zzD, zzM, cond_true, cond_false, seval]
    intro id
    refine ⟨by omega, fun id2 f1 f2 _ => ?_⟩
    simp (config := {maxSteps := 1000000}) only [f1, f2, g4, ← hn, w1, tt, List.take_succ_cons, List.take_zero, tokD, tb50_e, zz, zzN, zzF, zzD, zzM, cond_true, cond_false, seval]
theorem lexNumber_c' (s : List UInt8) (a : Int) (h : 0 ≤ a ∧ a ≤ s.length ∧ s.length ≤ 100000) : PCall Tryz.prog 55 [.str s, .int .i64 a] (.tuple [.agg (tokD (numL (s.drop a.toNat)).1 (numL (s.drop a.toNat)).2.1 a), .bool (numL (s.drop a.toNat)).2.2]) := by
  have := lexNumber_c s a.toNat (by omega) h.2.2
  rwa [Int.toNat_of_nonneg h.1] at this
def q77 : List D → Option D
  | [.str s, .int .i64 a] => if 0 ≤ a ∧ a ≤ s.length ∧ s.length ≤ 100000 then some (.tuple [.agg (tokD (numL (s.drop a.toNat)).1 (numL (s.drop a.toNat)).2.1 a), .bool (numL (s.drop a.toNat)).2.2]) else none
  | _ => none
theorem q77_ok (args : List D) (d : D) (h : q77 args = some d) : PCall Tryz.prog 55 args d := by
  unfold q77 at h
  split at h
  · split at h
    · cases h; exact lexNumber_c' _ _ (by assumption)
    · cases h
  · cases h

def tb77 : Tab := tb50.addQ 55 q77
theorem tb77_q (g : FuncId) (args : List D) : tb77.q g args = if g = 55 then q77 args else tb50.q g args := rfl
theorem tb77_a : tb77.a = tb50.a := rfl
theorem tb77_c : tb77.c = tb50.c := rfl
theorem tb77_ok : tb77.ok Tryz.prog := Tab.addQ_ok tb50_ok q77_ok
theorem tb77_e : type_of% (And.intro (And.intro @tb77_q (And.intro @tb77_a @tb77_c)) @tb50_e) := (And.intro (And.intro @tb77_q (And.intro @tb77_a @tb77_c)) @tb50_e)


/-- All signs, the longer ones first. -/
def signs : List (List UInt8) := [[58, 61], [60, 61], [62, 61], [61, 61], [33, 61], [38, 38], [124, 124], [40], [41], [123], [125], [44], [59], [61], [43], [45], [42], [47], [37], [60], [62], [33]]
theorem signs_c : PCall Tryz.prog 59 [] (.sl (encS signs)) := by
  refine PCall.run tb77_ok st79 (by simp) fun E => ?_
  simp only [s79, signs, encS, tb77_e, zz, zzN, zzF, zzD, zzM, cond_true, cond_false, seval]
def q79 : List D → Option D
  | [] => if True then some (.sl (encS signs)) else none
  | _ => none
theorem q79_ok (args : List D) (d : D) (h : q79 args = some d) : PCall Tryz.prog 59 args d := by
  unfold q79 at h
  split at h
  · split at h
    · cases h; exact signs_c
    · cases h
  · cases h

def tb79 : Tab := tb77.addQ 59 q79
theorem tb79_q (g : FuncId) (args : List D) : tb79.q g args = if g = 59 then q79 args else tb77.q g args := rfl
theorem tb79_a : tb79.a = tb77.a := rfl
theorem tb79_c : tb79.c = tb77.c := rfl
theorem tb79_ok : tb79.ok Tryz.prog := Tab.addQ_ok tb77_ok q79_ok
theorem tb79_e : type_of% (And.intro (And.intro @tb79_q (And.intro @tb79_a @tb79_c)) @tb77_e) := (And.intro (And.intro @tb79_q (And.intro @tb79_a @tb79_c)) @tb77_e)

def firstPre (l : List UInt8) : List (List UInt8) → Option (List UInt8)
  | [] => none
  | x :: xs => if pre l x = true then some x else firstPre l xs
/-- The word at the front: its kind, its bytes, whether it may be. -/
def oneL (l : List UInt8) : Int × List UInt8 × Bool :=
  if isDigit ((l.getD 0 0).toNat : Int) = true then numL l
  else if isLetter ((l.getD 0 0).toNat : Int) = true then
    (if words.contains (l.take (spn nameP l)) = true then (4, l.take (spn nameP l), true) else (1, l.take (spn nameP l), decide (spn nameP l ≤ 16)))
  else match firstPre l signs with
    | some x => (5, x, true)
    | none => (0, [], false)
def oneD (l : List UInt8) (a : Int) : D := .tuple [.agg (tokD (oneL l).1 (oneL l).2.1 (if (oneL l).1 = 0 then 0 else a)), .bool (oneL l).2.2]

set_option maxHeartbeats 1000000 in
theorem one_c (s : List UInt8) (a : Nat) (h1 : a < s.length) (h2 : s.length ≤ 100000) : PCall Tryz.prog 31 [.str s, .int .i64 a] (oneD (s.drop a) a) := by
  refine PCall.run tb79_ok st51 (by simp) fun E => ?_
  have g2 : (s.length ≤ 100000) = True := by simp; omega
  have g2' : (s.length ≤ 1000000) = True := by simp; omega
  have g3 : ((a : Int) ≤ (s.length : Int)) = True := by simp; omega
  have g3' : ((a : Int) ≤ 1000000) = True := by simp; omega
  have g0 : (0 ≤ (a : Int)) = True := by simp
  have e0 : (s.drop a).getD 0 0 = s.getD a 0 := by simp [List.getD]
  have ts : (s.drop a).take (s.length - a) = s.drop a := List.take_of_length_le (by simp)
  simp only [oneD, oneL, e0]
  cases c1 : isDigit ((s.getD a 0).toNat : Int) with
  | true =>
    have k0 : ((numL (s.drop a)).1 = 0) = False := by simp only [numL]; split <;> simp
    simp (config := {maxSteps := 1000000}) only [s51, g0, g2, g3, c1, k0, q77, q63, tokD, List.take_succ_cons, List.take_zero, tb79_e, zz, zzN, zzF, zzD, zzM, cond_true, cond_false, seval]
    omega
  | false =>
    cases c2 : isLetter ((s.getD a 0).toNat : Int) with
    | true =>
      obtain ⟨m, hm⟩ : ∃ m, m = spn nameP (s.drop a) := ⟨_, rfl⟩
      have hl := spn_le nameP (s.drop a)
      rw [List.length_drop, ← hm] at hl
      have w1 : IntKind.i64.wrap ((a : Int) + (m : Int)) = ((a + m : Nat) : Int) := wrap_add (by omega)
      have e3 : a + m - a = m := by omega
      have lm : ((s.drop a).take m).length = m := by simp; omega
      have dm : decide ((m : Int) ≤ 16) = decide (m ≤ 16) := decide_eq_decide.2 (by omega)
      cases c3 : words.contains ((s.drop a).take m) <;>
        simp (config := {maxSteps := 1000000}) only [s51, g0, g2, g2', g3, g3', c1, c2, c3, ← hm, w1, e3, lm, dm, q62, q63, q75, q40, isByteP, tokD, List.take_succ_cons, List.take_zero, tb79_e, zz, zzN, zzF, zzD, zzM, cond_true, cond_false, seval]
      · omega
      · omega
    | false =>
      have ls : (encS signs).length = 22 := rfl
      simp (config := {maxSteps := 1000000}) only [s51, g0, g2, g3, c1, c2, ls, q62, q63, q79, tokD, List.take_succ_cons, List.take_zero, tb79_e, zz, zzN, zzF, zzD, zzM, cond_true, cond_false, seval]
      intro id
      refine ⟨by omega, ?_⟩
      refine run_loop (X := Nat) (fun i => [(0, .str s), (1, .int .i64 a), (4, .ptr id 1 0), (43, .sl (encS signs)), (44, .int .i64 22), (45, .int .i64 i)]) (fun _ => AHeap.emp.set id (.cells [.int .i64 0, .str [], .int .i64 0])) (fun i => 22 - i)
        (fun i => i ≤ 22 ∧ firstPre (s.drop a) (signs.drop i) = firstPre (s.drop a) signs) 0 (by simp) ?_ (AHeap.sub_refl _) ?_
      · simp only [zz, zzN, zzF, zzD, zzM, cond_true, cond_false, seval]
      · rintro i Q ⟨i1, i2⟩ hQ
        have wi : IntKind.i64.wrap ((i : Int) + 1) = ((i + 1 : Nat) : Int) := wrap_succ (by omega)
        by_cases c4 : i < 22
        · have g4 : ((i : Int) < 22) = True := by simp; omega
          have lsl : signs.length = 22 := rfl
          obtain ⟨x, hx⟩ : ∃ x, signs[i]? = some x := by rw [List.getElem?_eq_getElem (by omega)]; exact ⟨_, rfl⟩
          rw [drop_get hx] at i2
          simp only [firstPre] at i2
          cases c5 : pre (s.drop a) x with
          | true =>
            rw [if_pos c5] at i2
            simp (config := {maxSteps := 1000000}) only [g0, g3, g4, wi, ts, hx, c5, ← i2, askE_encS, q74, List.take_succ_cons, List.take_zero, tb79_e, zz, zzN, zzF, zzD, zzM, cond_true, cond_false, seval]
            omega
          | false =>
            rw [if_neg (by rw [c5]; exact Bool.false_ne_true)] at i2
            simp (config := {maxSteps := 1000000}) only [g0, g3, g4, wi, ts, hx, c5, askE_encS, q74, List.take_succ_cons, List.take_zero, tb79_e, zz, zzN, zzF, zzD, zzM, cond_true, cond_false, seval]
            refine ⟨by omega, ?_⟩
            refine hQ (i + 1) _ _ ⟨by omega, i2⟩ ?_ (AHeap.sub_refl _) (by omega)
            simp only [zz, zzN, zzF, zzD, zzM, cond_true, cond_false, seval]
        · have g4 : ((i : Int) < 22) = False := by simp; omega
          have e : signs.drop i = [] := List.drop_of_length_le (by simp [signs]; omega)
          rw [e, firstPre] at i2
          simp (config := {maxSteps := 1000000}) only [g4, ← i2, List.take_succ_cons, List.take_zero, tb79_e, zz, zzN, zzF, zzD, zzM, cond_true, cond_false, seval]
theorem one_c' (s : List UInt8) (a : Int) (h : 0 ≤ a ∧ a < s.length ∧ s.length ≤ 100000) : PCall Tryz.prog 31 [.str s, .int .i64 a] (oneD (s.drop a.toNat) a) := by
  have := one_c s a.toNat (by omega) h.2.2
  rwa [Int.toNat_of_nonneg h.1] at this
def q51 : List D → Option D
  | [.str s, .int .i64 a] => if 0 ≤ a ∧ a < s.length ∧ s.length ≤ 100000 then some (oneD (s.drop a.toNat) a) else none
  | _ => none
theorem q51_ok (args : List D) (d : D) (h : q51 args = some d) : PCall Tryz.prog 31 args d := by
  unfold q51 at h
  split at h
  · split at h
    · cases h; exact one_c' _ _ (by assumption)
    · cases h
  · cases h

def tb51 : Tab := tb79.addQ 31 q51
theorem tb51_q (g : FuncId) (args : List D) : tb51.q g args = if g = 31 then q51 args else tb79.q g args := rfl
theorem tb51_a : tb51.a = tb79.a := rfl
theorem tb51_c : tb51.c = tb79.c := rfl
theorem tb51_ok : tb51.ok Tryz.prog := Tab.addQ_ok tb79_ok q51_ok
theorem tb51_e : type_of% (And.intro (And.intro @tb51_q (And.intro @tb51_a @tb51_c)) @tb79_e) := (And.intro (And.intro @tb51_q (And.intro @tb51_a @tb51_c)) @tb79_e)

end Go.Proofs.YtpagdhbmbnoddaaGreatDoor.Zz
