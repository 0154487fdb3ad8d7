/- The law of places: its walk. -/
import Derived.Test.YthpgepillaeldaaDoorZA12
set_option linter.unnecessarySimpa false
namespace Go.Proofs.YthpgepillaeldaaDoor.Zz
noncomputable section
set_option linter.unusedVariables false
set_option linter.unusedSimpArgs false
set_option maxRecDepth 20000
def p6n : Plan := ⟨⟨[], [], [(6, 16)], [], [], []⟩, [(6, [0, 1, 2, 3, 4, 5, 6, 7, 8, 9, 10, 11, 12, 13, 14, 15, 16, 17, 18, 19, 20, 21, 22]), (10, [0, 1, 2, 4, 3, 5, 6]), (12, [0, 1, 2, 4, 6, 7, 3, 5, 8, 9, 10, 11, 12, 13, 15, 14, 16, 17, 18])], [], false⟩
/-- cupel/cupellaw10.AstPlaces (3 parameters, 0 captured) -/
def s6n : Stm :=
  .seq (.ops [⟨.box (.t 2), (some 5), none, false⟩,
     ⟨.mov (.c (.bool false)), (some 6), none, true⟩])
  (.seq (.ops [⟨.mov (.t 0), (some 13), none, true⟩,
     ⟨.qcall (.f 15) [(.t 13)], (some 14), none, false⟩,
     ⟨.alloc [(.int .i64 0), (.int .i64 0), (.str []), (.int .i64 0), .nilsl], (some 7), none, false⟩,
     ⟨.store 5 (.t 7) (.t 14), none, none, false⟩])
  (.seq (.ops [⟨.load (some 5) (.t 7), (some 15), none, false⟩,
     ⟨.qcall (.f 17) [(.t 15)], (some 16), none, false⟩,
     ⟨.qcall (.f 20) [(.t 16)], (some 17), none, false⟩,
     ⟨.mov (.t 17), (some 8), none, true⟩])
  (.seq (.seq (.ops [⟨.qcall (.f 12) [], (some 18), none, false⟩,
      ⟨.un .not (.t 18), (some 19), none, true⟩,
      ⟨.mov (.t 19), (some 20), none, true⟩,
      ⟨.load (some 5) (.t 7), (some 21), (some (20, false)), false⟩,
      ⟨.qcall (.f 14) [(.t 21)], (some 22), (some (20, false)), false⟩,
      ⟨.mov (.t 8), (some 23), (some (20, false)), true⟩,
      ⟨.len .sl (.t 23), (some 24), (some (20, false)), false⟩,
      ⟨.bin .neq (.t 22) (.t 24), (some 25), (some (20, false)), true⟩,
      ⟨.pick (.t 20) (.c (.bool true)) (.t 25), (some 26), none, true⟩,
      ⟨.mov (.t 26), (some 27), none, true⟩,
      ⟨.load (some 5) (.t 7), (some 28), (some (27, false)), false⟩,
      ⟨.mov (.t 8), (some 29), (some (27, false)), true⟩,
      ⟨.qcall (.f 21) [(.t 28), (.t 29)], (some 30), (some (27, false)), false⟩,
      ⟨.un .not (.t 30), (some 31), (some (27, false)), true⟩,
      ⟨.pick (.t 27) (.c (.bool true)) (.t 31), (some 32), none, true⟩])
   (.cond (.t 32)
    (.seq (.ops [⟨.mov (.c (.bool false)), (some 6), none, true⟩])
     (.ret))
    (.skip)))
  (.seq (.ops [⟨.load (some 5) (.t 7), (some 34), none, false⟩,
     ⟨.mov (.t 1), (some 35), none, true⟩,
     ⟨.qcall (.f 22) [(.t 34), (.t 35)], (some 36), none, false⟩,
     ⟨.mov (.t 36), (some 33), none, true⟩,
     ⟨.extract (.t 33) 0, (some 37), none, true⟩,
     ⟨.extract (.t 33) 1, (some 38), none, true⟩,
     ⟨.alloc [(.int .i64 0), (.int .i64 0), (.str []), (.int .i64 0), .nilsl], (some 9), none, false⟩,
     ⟨.store 5 (.t 9) (.t 37), none, none, false⟩,
     ⟨.mov (.t 38), (some 10), none, true⟩])
  (.seq (.seq (.opsD [⟨.mov (.t 10), (some 39), none, true⟩,
      ⟨.mov (.t 1), (some 40), none, true⟩,
      ⟨.bin .geq (.t 40) (.c (.int .i64 0)), (some 41), none, true⟩,
      ⟨.mov (.t 41), (some 42), none, true⟩,
      ⟨.mov (.t 1), (some 43), (some (42, true)), true⟩,
      ⟨.mov (.t 8), (some 44), (some (42, true)), true⟩,
      ⟨.len0 .sl (.t 44), (some 45), (some (42, true)), true⟩,
      ⟨.bin .lss (.t 43) (.t 45), (some 46), (some (42, true)), true⟩,
      ⟨.pick (.t 42) (.t 46) (.c (.bool false)), (some 47), none, true⟩,
      ⟨.eql .bool true (.t 39) (.t 47), (some 48), none, true⟩,
      ⟨.mov (.t 48), (some 49), none, true⟩,
      ⟨.mov (.t 10), (some 50), (some (49, false)), true⟩,
      ⟨.mov (.t 50), (some 51), (some (49, false)), true⟩,
      ⟨.load (some 5) (.t 9), (some 52), (some (51, true)), false⟩,
      ⟨.mov (.t 8), (some 53), (some (51, true)), true⟩,
      ⟨.mov (.t 1), (some 54), (some (51, true)), true⟩,
      ⟨.indexAddrS 5 (.t 53) (.t 54), (some 55), (some (51, true)), false⟩,
      ⟨.load (some 5) (.t 55), (some 56), (some (51, true)), false⟩,
      ⟨.qcall (.f 23) [(.t 56)], (some 57), (some (51, true)), false⟩,
      ⟨.qcall (.f 19) [(.t 52), (.t 57)], (some 58), (some (51, true)), false⟩,
      ⟨.un .not (.t 58), (some 59), (some (51, true)), true⟩,
      ⟨.pick (.t 51) (.t 59) (.c (.bool false)), (some 60), (some (49, false)), true⟩,
      ⟨.pick (.t 49) (.c (.bool true)) (.t 60), (some 61), none, true⟩])
   (.cond (.t 61)
    (.seq (.ops [⟨.mov (.c (.bool false)), (some 6), none, true⟩])
     (.ret))
    (.skip)))
  (.seq (.ops [⟨.load (some 5) (.t 5), (some 62), none, false⟩,
     ⟨.buildSlice 5 [(.int .i64 0), (.int .i64 0), (.str []), (.int .i64 0), (.int .i64 0)] 1 [(0, (.t 62))] false, (some 63), none, true⟩,
     ⟨.qcall (.f 15) [(.t 63)], (some 64), none, false⟩,
     ⟨.alloc [(.int .i64 0), (.int .i64 0), (.str []), (.int .i64 0), .nilsl], (some 11), none, false⟩,
     ⟨.store 5 (.t 11) (.t 64), none, none, false⟩])
  (.seq (.seq (.ops [⟨.mov (.t 1), (some 65), none, true⟩,
      ⟨.bin .lss (.t 65) (.c (.int .i64 0)), (some 66), none, true⟩])
   (.cond (.t 66)
    (.seq (.opsD [⟨.load (some 5) (.t 7), (some 67), none, false⟩,
        ⟨.mov (.t 1), (some 68), none, true⟩,
        ⟨.load (some 5) (.t 11), (some 69), none, false⟩,
        ⟨.load (some 5) (.t 7), (some 71), none, false⟩,
        ⟨.qcall (.f 24) [(.t 67), (.t 68), (.t 69)], (some 70), none, false⟩,
        ⟨.qcall (.f 19) [(.t 70), (.t 71)], (some 72), none, false⟩,
        ⟨.mov (.t 72), (some 6), none, true⟩])
     (.ret))
    (.skip)))
  (.seq (.ops [⟨.load (some 5) (.t 7), (some 73), none, false⟩,
     ⟨.qcall (.f 13) [(.t 73)], (some 74), none, false⟩,
     ⟨.mov (.t 74), (some 12), none, true⟩])
  (.seq (.opsD [⟨.load (some 5) (.t 7), (some 75), none, false⟩,
     ⟨.mov (.t 1), (some 76), none, true⟩,
     ⟨.load (some 5) (.t 11), (some 77), none, false⟩,
     ⟨.load (some 5) (.t 7), (some 79), none, false⟩,
     ⟨.mov (.t 1), (some 81), none, true⟩,
     ⟨.load (some 5) (.t 11), (some 82), none, false⟩,
     ⟨.qcall (.f 24) [(.t 75), (.t 76), (.t 77)], (some 78), none, false⟩,
     ⟨.qcall (.f 17) [(.t 79)], (some 80), none, false⟩,
     ⟨.qcall (.f 17) [(.t 82)], (some 83), none, false⟩,
     ⟨.qcall (.f 25) [(.t 80), (.t 81), (.t 83)], (some 84), none, false⟩,
     ⟨.qcall (.f 23) [(.t 84)], (some 85), none, false⟩,
     ⟨.qcall (.f 19) [(.t 78), (.t 85)], (some 86), none, false⟩,
     ⟨.mov (.t 86), (some 87), none, true⟩,
     ⟨.load (some 5) (.t 7), (some 88), (some (87, true)), false⟩,
     ⟨.mov (.t 12), (some 90), (some (87, true)), true⟩,
     ⟨.qcall (.f 13) [(.t 88)], (some 89), (some (87, true)), false⟩,
     ⟨.bin .eql (.t 89) (.t 90), (some 91), (some (87, true)), true⟩,
     ⟨.pick (.t 87) (.t 91) (.c (.bool false)), (some 92), none, true⟩,
     ⟨.mov (.t 92), (some 6), none, true⟩])
  (.ret))))))))))
theorem st6n : stmOf Tryd.prog 6 p6n = some (s6n, [.tmp 6], 93) := by kernel_rfl

theorem replF_cnt (b : Nd) : ∀ (n : Nd) (p : Int), (replF b n p).cnt ≤ n.cnt + b.cnt := by
  intro n
  induction n using Nd.rec (motive_2 := fun l => ∀ a p : Int, Nd.cnts (replFs b l a p) ≤ Nd.cnts l + b.cnt) with
  | mk k t s m l ih =>
    intro p
    rw [replF_mk]
    split
    · omega
    · have := ih 1 p; rw [cnt_mk, cnt_mk]; omega
  | nil => rename_i a p; rw [replFs_nil, cnts_nil]; omega
  | cons y l ih1 ih2 =>
    rename_i a p
    rw [cnts_cons]
    by_cases h : a ≤ p ∧ p < a + y.cnt
    · rw [replFs_hit b h.1 h.2, cnts_cons]
      have := ih1 (p - a); omega
    · rw [replFs_cons, if_neg h, cnts_cons]
      have := ih2 (a + y.cnt) p; omega
theorem replF_low (b : Nd) : ∀ (n : Nd) (p : Int), p < 0 → replF b n p = n
  | .mk k t s m l, p, h => by rw [replF_mk, if_neg (by omega), replFs_low b l _ _ (by omega)]
def q25n : List D → Option D := q25f 1000000000
theorem rrepl_all : ∀ f, f ≤ 1000000000 → ∀ args d, q25f f args = some d → PCall Tryd.prog 25 args d
  | 0, _, args, d, h => by
    unfold q25f at h
    split at h
    · split at h
      · split at h
        · rename_i e; omega
        · cases h
      · cases h
    · cases h
  | f + 1, hf, args, d, h => by
    unfold q25f at h
    split at h
    · split at h
      · split at h
        · rename_i en eb e
          cases h
          rw [decN_some en, decN_some eb]
          exact rrepl_step f (by omega) (Tab.addQ_ok tb48n_ok (rrepl_all f (by omega))) _ _ _ e.1 e.2
        · cases h
      · cases h
    · cases h
theorem q25n_ok (args : List D) (d : D) (h : q25n args = some d) : PCall Tryd.prog 25 args d := rrepl_all _ (Nat.le_refl _) args d h
def q24n : List D → Option D := q25f 1000000000
theorem repl_all : ∀ f, f ≤ 1000000000 → ∀ args d, q24f f args = some d → PCall Tryd.prog 24 args d
  | 0, _, args, d, h => by
    unfold q24f q25f at h
    split at h
    · split at h
      · split at h
        · rename_i e; omega
        · cases h
      · cases h
    · cases h
  | f + 1, hf, args, d, h => by
    unfold q24f q25f at h
    split at h
    · split at h
      · split at h
        · rename_i en eb e
          cases h
          rw [decN_some en, decN_some eb]
          exact repl_step f (by omega) (Tab.addQ_ok tb47n_ok (repl_all f (by omega))) _ _ _ e.1 e.2
        · cases h
      · cases h
    · cases h
theorem q24n_ok (args : List D) (d : D) (h : q24n args = some d) : PCall Tryd.prog 24 args d := repl_all _ (Nat.le_refl _) args d h
theorem q24n_eq {n b : Nd} {p : Int} (h : n.cnt < 1000000000) (hp : -9223372036854775808 ≤ p ∧ p ≤ 9223372036854775807) : q24n [.agg n.enc, .int .i64 p, .agg b.enc] = some (.agg (replF b n p).enc) := by
  simp only [q24n, q25f, decN_enc]; rw [if_pos ⟨h, hp⟩]
theorem q25n_eq {n b : Nd} {p : Int} (h : n.cnt < 1000000000) (hp : -9223372036854775808 ≤ p ∧ p ≤ 9223372036854775807) : q25n [.agg n.enc, .int .i64 p, .agg b.enc] = some (.agg (replF b n p).enc) := by
  simp only [q25n, q25f, decN_enc]; rw [if_pos ⟨h, hp⟩]
def q20n := qN (fun n => decide (n.cnt < 1000000000)) fun n => .sl (Nd.encs (listF n))
theorem q20n_ok (args : List D) (d : D) (h : q20n args = some d) : PCall Tryd.prog 20 args d := qN_ok (fun n h => list_c n (by simpa using h)) args d h
/-- Nodes beside their list. -/
def q21n (args : List D) : Option D := open Classical in if ∃ n : Nd, n.cnt ≤ 100000000 ∧ args = [.agg n.enc, .sl (Nd.encs (listF n))] then some (.bool true) else none
theorem q21n_ok (args : List D) (d : D) (h : q21n args = some d) : PCall Tryd.prog 21 args d := by
  unfold q21n at h
  split at h
  · rename_i e
    obtain ⟨n, hn, rfl⟩ := e
    cases h
    exact places_c n hn
  · cases h
theorem q21n_eq {n : Nd} (h : n.cnt ≤ 100000000) : q21n [.agg n.enc, .sl (Nd.encs (listF n))] = some (.bool true) := if_pos ⟨n, h, rfl⟩
def q22n : List D → Option D
  | [.agg ds, .int .i64 p] => match decN ds with
    | some n => if n.cnt ≤ 100000000 then some (.tuple [.agg ((atF n p).getD zeroNd).enc, .bool (atF n p).isSome]) else none
    | none => none
  | _ => none
theorem q22n_ok (args : List D) (d : D) (h : q22n args = some d) : PCall Tryd.prog 22 args d := by
  unfold q22n at h
  split at h
  · split at h
    · rename_i e
      split at h
      · cases h
        rw [decN_some e]
        exact at_c _ _ (by assumption)
      · cases h
    · cases h
  · cases h
theorem q22n_eq {n : Nd} {p : Int} (h : n.cnt ≤ 100000000) : q22n [.agg n.enc, .int .i64 p] = some (.tuple [.agg ((atF n p).getD zeroNd).enc, .bool (atF n p).isSome]) := by
  simp only [q22n, decN_enc]; rw [if_pos h]
def tb20n : Tab := tb16n.addQ 20 q20n
theorem tb20n_q (g : FuncId) (args : List D) : tb20n.q g args = if g = 20 then q20n args else tb16n.q g args := rfl
theorem tb20n_a : tb20n.a = tb16n.a := rfl
theorem tb20n_c : tb20n.c = tb16n.c := rfl
theorem tb20n_ok : tb20n.ok Tryd.prog := Tab.addQ_ok tb16n_ok q20n_ok
theorem tb20n_e : type_of% (And.intro (And.intro @tb20n_q (And.intro @tb20n_a @tb20n_c)) @tb16n_e) := (And.intro (And.intro @tb20n_q (And.intro @tb20n_a @tb20n_c)) @tb16n_e)

def tb21n : Tab := tb20n.addQ 21 q21n
theorem tb21n_q (g : FuncId) (args : List D) : tb21n.q g args = if g = 21 then q21n args else tb20n.q g args := rfl
theorem tb21n_a : tb21n.a = tb20n.a := rfl
theorem tb21n_c : tb21n.c = tb20n.c := rfl
theorem tb21n_ok : tb21n.ok Tryd.prog := Tab.addQ_ok tb20n_ok q21n_ok
theorem tb21n_e : type_of% (And.intro (And.intro @tb21n_q (And.intro @tb21n_a @tb21n_c)) @tb20n_e) := (And.intro (And.intro @tb21n_q (And.intro @tb21n_a @tb21n_c)) @tb20n_e)

def tb22n : Tab := tb21n.addQ 22 q22n
theorem tb22n_q (g : FuncId) (args : List D) : tb22n.q g args = if g = 22 then q22n args else tb21n.q g args := rfl
theorem tb22n_a : tb22n.a = tb21n.a := rfl
theorem tb22n_c : tb22n.c = tb21n.c := rfl
theorem tb22n_ok : tb22n.ok Tryd.prog := Tab.addQ_ok tb21n_ok q22n_ok
theorem tb22n_e : type_of% (And.intro (And.intro @tb22n_q (And.intro @tb22n_a @tb22n_c)) @tb21n_e) := (And.intro (And.intro @tb22n_q (And.intro @tb22n_a @tb22n_c)) @tb21n_e)

def tb23w : Tab := tb22n.addQ 23 q23n
theorem tb23w_q (g : FuncId) (args : List D) : tb23w.q g args = if g = 23 then q23n args else tb22n.q g args := rfl
theorem tb23w_a : tb23w.a = tb22n.a := rfl
theorem tb23w_c : tb23w.c = tb22n.c := rfl
theorem tb23w_ok : tb23w.ok Tryd.prog := Tab.addQ_ok tb22n_ok q23n_ok
theorem tb23w_e : type_of% (And.intro (And.intro @tb23w_q (And.intro @tb23w_a @tb23w_c)) @tb22n_e) := (And.intro (And.intro @tb23w_q (And.intro @tb23w_a @tb23w_c)) @tb22n_e)

def tb24n : Tab := tb23w.addQ 24 q24n
theorem tb24n_q (g : FuncId) (args : List D) : tb24n.q g args = if g = 24 then q24n args else tb23w.q g args := rfl
theorem tb24n_a : tb24n.a = tb23w.a := rfl
theorem tb24n_c : tb24n.c = tb23w.c := rfl
theorem tb24n_ok : tb24n.ok Tryd.prog := Tab.addQ_ok tb23w_ok q24n_ok
theorem tb24n_e : type_of% (And.intro (And.intro @tb24n_q (And.intro @tb24n_a @tb24n_c)) @tb23w_e) := (And.intro (And.intro @tb24n_q (And.intro @tb24n_a @tb24n_c)) @tb23w_e)

def tb25n : Tab := tb24n.addQ 25 q25n
theorem tb25n_q (g : FuncId) (args : List D) : tb25n.q g args = if g = 25 then q25n args else tb24n.q g args := rfl
theorem tb25n_a : tb25n.a = tb24n.a := rfl
theorem tb25n_c : tb25n.c = tb24n.c := rfl
theorem tb25n_ok : tb25n.ok Tryd.prog := Tab.addQ_ok tb24n_ok q25n_ok
theorem tb25n_e : type_of% (And.intro (And.intro @tb25n_q (And.intro @tb25n_a @tb25n_c)) @tb24n_e) := (And.intro (And.intro @tb25n_q (And.intro @tb25n_a @tb25n_c)) @tb24n_e)

theorem atF_some {n : Nd} {p : Int} {x : Nd} (h : atF n p = some x) : 0 ≤ p ∧ p < n.cnt ∧ (listF n)[p.toNat]? = some x := by
  unfold atF at h
  split at h
  · have := (List.getElem?_eq_some_iff.1 h).1
    rw [listF_len] at this
    exact ⟨by assumption, by omega, h⟩
  · cases h
theorem atF_none {n : Nd} {p : Int} (h : atF n p = none) : p < 0 ∨ (n.cnt : Int) ≤ p := by
  unfold atF at h
  split at h
  · rw [List.getElem?_eq_none_iff, listF_len] at h
    right; omega
  · left; omega
theorem astPlaces_c (a : List Tr) (p : Int) (tr : Tr) (ha : trOk a) (hp : -9223372036854775808 ≤ p ∧ p ≤ 9223372036854775807) (htr : trOk [tr]) : PCall Tryd.prog 6 [.sl (encTs a), .int .i64 p, .agg (encT5 tr)] (.bool true) := by
  refine PCall.run tb25n_ok st6n (by simp) fun E => ?_
  have wx := madeTop_wf ha
  have wy := madeTop_wf htr
  have nx := madeTop_cnt a
  have ny := madeTop_cnt [tr]
  have ea := q15n_eq a
  have eb := q15n_eq [tr]
  generalize madeTop a = x at *
  generalize madeTop [tr] = y at *
  have lx := encF_len x wx
  have r1 : q17n [.agg x.enc] = some (.agg x.enc) := qN_eq (by simp; omega)
  have r2 : q17n [.agg y.enc] = some (.agg y.enc) := qN_eq (by simp; omega)
  have r3 : q20n [.agg x.enc] = some (.sl (Nd.encs (listF x))) := qN_eq (by simp; omega)
  have r4 : q14n [.agg x.enc] = some (.int .i64 x.cnt) := by simp only [q14n, decN_enc]; rw [if_pos (by omega)]
  have r5 : q21n [.agg x.enc, .sl (Nd.encs (listF x))] = some (.bool true) := q21n_eq (by omega)
  have r6 : q22n [.agg x.enc, .int .i64 p] = some (.tuple [.agg ((atF x p).getD zeroNd).enc, .bool (atF x p).isSome]) := q22n_eq (by omega)
  have r7 : q24n [.agg x.enc, .int .i64 p, .agg y.enc] = some (.agg (replF y x p).enc) := q24n_eq (by omega) hp
  have r8 : q25n [.agg x.enc, .int .i64 p, .agg y.enc] = some (.agg (replF y x p).enc) := q25n_eq (by omega) hp
  have hz := replF_cnt y x p
  have r9 : q23n [.agg (replF y x p).enc] = some (.agg (replF y x p).enc) := qN_eq (by simp; omega)
  have r10 : q19n [.agg (replF y x p).enc, .agg (replF y x p).enc] = some (.bool true) := by rw [q19n_eq (by omega), sameN_self]
  have hlen : (Nd.encs (listF x)).length = x.cnt := by rw [len_encs, listF_len]
  have ee : ((x.cnt : Int) != ((Nd.encs (listF x)).length : Int)) = false := by rw [hlen]; simp
  have het : encTs [tr] = [[.int .i64 tr.k, .int .i64 tr.t, .str tr.s, .int .i64 tr.n, .int .i64 tr.c]] := rfl
  simp only [encT5]
  rw [het] at eb
  have hrl : p < 0 → replF y x p = x := replF_low y x p
  have r11 : q19n [.agg x.enc, .agg x.enc] = some (.bool true) := by rw [q19n_eq (by omega), sameN_self]
  have r12 : q13n [.agg x.enc] = some (.str (encF x)) := by
    simp only [q13n, decN_enc]
    rw [if_pos (by omega)]
  have px := part_enc x
  have py := part_enc y
  have hlx := len_enc x
  have hly := len_enc y
  cases ha : atF x p with
  | none =>
    have z1 := atF_none ha
    rw [ha] at r6
    simp only [Option.getD_none, Option.isSome_none] at r6
    have hzn : zeroNd.enc = [.int .i64 0, .int .i64 0, .str [], .int .i64 0, .sl []] := by rw [zeroNd, enc_mk, encs_nil]
    rw [hzn] at r6
    by_cases c0n : p < 0
    · rw [hrl c0n] at r7
      clear r8 r9 r10
      have g1 : (p ≥ 0) = False := eq_false (by omega)
      have g3 : (p < 0) = True := eq_true c0n
      generalize Nd.encs (listF x) = L at *
      clear ha wx wy nx ny hz hrl z1
      obtain ⟨xk, xt, xs, xm, xl⟩ := x
      obtain ⟨yk, yt, ys, ym, yl⟩ := y
      simp only [enc_mk] at *
      simp (config := {maxSteps := 1000000}) only [s6n, ea, eb, g1, g3, tb41n_e, tbLp_e, tbRt_e, tb25n_e, i_callNe, Int.natCast_nonneg, Nat.le_refl, Int.le_refl, List.take_succ_cons, List.take_zero, decide_true, decide_false, Bool.and_false, Bool.false_and, zz, zzN, zzF, zzD, zzM, cond_true, cond_false, ↓reduceIte, Nat.reduceEqDiff, Nat.reduceBEq, Int.reduceLT, Int.reduceLE, Int.reduceToNat, Int.reduceEq, Int.reduceAdd, Int.reduceSub, Int.reduceMul, Int.reduceNeg, Nat.reduceMul, Nat.reduceSub, Nat.reduceLeDiff, Nat.reduceLT, Int.reduceGT, Int.reduceGE, Int.reduceBEq, Int.reduceBNe, reduceCtorEq, Nat.reduceAdd]
      intro i5 i7 n1 n2
      simp (config := {maxSteps := 1000000}) only [n1, n2, r1, r2, r3, r4, r5, r6, ee, ea, eb, g1, g3, q12n_eq, tb41n_e, tbLp_e, tbRt_e, tb25n_e, i_callNe, Int.natCast_nonneg, Nat.le_refl, Int.le_refl, List.take_succ_cons, List.take_zero, decide_true, decide_false, Bool.and_false, Bool.false_and, zz, zzN, zzF, zzD, zzM, cond_true, cond_false, ↓reduceIte, Nat.reduceEqDiff, Nat.reduceBEq, Int.reduceLT, Int.reduceLE, Int.reduceToNat, Int.reduceEq, Int.reduceAdd, Int.reduceSub, Int.reduceMul, Int.reduceNeg, Nat.reduceMul, Nat.reduceSub, Nat.reduceLeDiff, Nat.reduceLT, Int.reduceGT, Int.reduceGE, Int.reduceBEq, Int.reduceBNe, reduceCtorEq, Nat.reduceAdd]
      intro _ i9 k1 k2 k3 k4
      simp (config := {maxSteps := 1000000}) only [n1, n2, k1, k2, k3, k4, r1, r2, r3, r4, r5, r6, ee, ea, eb, g1, g3, q12n_eq, tb41n_e, tbLp_e, tbRt_e, tb25n_e, i_callNe, Int.natCast_nonneg, Nat.le_refl, Int.le_refl, List.take_succ_cons, List.take_zero, decide_true, decide_false, Bool.and_false, Bool.false_and, zz, zzN, zzF, zzD, zzM, cond_true, cond_false, ↓reduceIte, Nat.reduceEqDiff, Nat.reduceBEq, Int.reduceLT, Int.reduceLE, Int.reduceToNat, Int.reduceEq, Int.reduceAdd, Int.reduceSub, Int.reduceMul, Int.reduceNeg, Nat.reduceMul, Nat.reduceSub, Nat.reduceLeDiff, Nat.reduceLT, Int.reduceGT, Int.reduceGE, Int.reduceBEq, Int.reduceBNe, reduceCtorEq, Nat.reduceAdd]
      intro i11 k5 k6 k7 k8 k9 k10
      simp (config := {maxSteps := 1000000}) only [n1, n2, k1, k2, k3, k4, k5, k6, k7, k8, k9, k10, r1, r2, r3, r4, r5, r6, r7, r11, r12, enc_unnil, beq_self_eq_true, ee, ea, eb, g1, g3, q12n_eq, tb41n_e, tbLp_e, tbRt_e, tb25n_e, i_callNe, Int.natCast_nonneg, Nat.le_refl, Int.le_refl, List.take_succ_cons, List.take_zero, decide_true, decide_false, Bool.and_false, Bool.false_and, zz, zzN, zzF, zzD, zzM, cond_true, cond_false, ↓reduceIte, Nat.reduceEqDiff, Nat.reduceBEq, Int.reduceLT, Int.reduceLE, Int.reduceToNat, Int.reduceEq, Int.reduceAdd, Int.reduceSub, Int.reduceMul, Int.reduceNeg, Nat.reduceMul, Nat.reduceSub, Nat.reduceLeDiff, Nat.reduceLT, Int.reduceGT, Int.reduceGE, Int.reduceBEq, Int.reduceBNe, reduceCtorEq, Nat.reduceAdd]
    · have g1 : (p ≥ 0) = True := eq_true (by omega)
      have g2 : (p < ((Nd.encs (listF x)).length : Int)) = False := eq_false (by omega)
      have g3 : (p < 0) = False := eq_false c0n
      generalize replF y x p = w at *
      have hlw := len_enc w
      generalize Nd.encs (listF x) = L at *
      clear ha wx wy nx ny hz hrl z1
      obtain ⟨xk, xt, xs, xm, xl⟩ := x
      obtain ⟨yk, yt, ys, ym, yl⟩ := y
      obtain ⟨wk, wt, ws, wm, wl⟩ := w
      simp only [enc_mk] at *
      simp (config := {maxSteps := 1000000}) only [s6n, ea, eb, g1, g2, g3, tb41n_e, tbLp_e, tbRt_e, tb25n_e, i_callNe, Int.natCast_nonneg, Nat.le_refl, Int.le_refl, List.take_succ_cons, List.take_zero, decide_true, decide_false, Bool.and_false, Bool.false_and, zz, zzN, zzF, zzD, zzM, cond_true, cond_false, ↓reduceIte, Nat.reduceEqDiff, Nat.reduceBEq, Int.reduceLT, Int.reduceLE, Int.reduceToNat, Int.reduceEq, Int.reduceAdd, Int.reduceSub, Int.reduceMul, Int.reduceNeg, Nat.reduceMul, Nat.reduceSub, Nat.reduceLeDiff, Nat.reduceLT, Int.reduceGT, Int.reduceGE, Int.reduceBEq, Int.reduceBNe, reduceCtorEq, Nat.reduceAdd]
      intro i5 i7 n1 n2
      simp (config := {maxSteps := 1000000}) only [n1, n2, r1, r2, r3, r4, r5, r6, ee, ea, eb, g1, g2, g3, q12n_eq, tb41n_e, tbLp_e, tbRt_e, tb25n_e, i_callNe, Int.natCast_nonneg, Nat.le_refl, Int.le_refl, List.take_succ_cons, List.take_zero, decide_true, decide_false, Bool.and_false, Bool.false_and, zz, zzN, zzF, zzD, zzM, cond_true, cond_false, ↓reduceIte, Nat.reduceEqDiff, Nat.reduceBEq, Int.reduceLT, Int.reduceLE, Int.reduceToNat, Int.reduceEq, Int.reduceAdd, Int.reduceSub, Int.reduceMul, Int.reduceNeg, Nat.reduceMul, Nat.reduceSub, Nat.reduceLeDiff, Nat.reduceLT, Int.reduceGT, Int.reduceGE, Int.reduceBEq, Int.reduceBNe, reduceCtorEq, Nat.reduceAdd]
      intro _ i9 k1 k2 k3 k4
      simp (config := {maxSteps := 1000000}) only [n1, n2, k1, k2, k3, k4, r1, r2, r3, r4, r5, r6, ee, ea, eb, g1, g2, g3, q12n_eq, tb41n_e, tbLp_e, tbRt_e, tb25n_e, i_callNe, Int.natCast_nonneg, Nat.le_refl, Int.le_refl, List.take_succ_cons, List.take_zero, decide_true, decide_false, Bool.and_false, Bool.false_and, zz, zzN, zzF, zzD, zzM, cond_true, cond_false, ↓reduceIte, Nat.reduceEqDiff, Nat.reduceBEq, Int.reduceLT, Int.reduceLE, Int.reduceToNat, Int.reduceEq, Int.reduceAdd, Int.reduceSub, Int.reduceMul, Int.reduceNeg, Nat.reduceMul, Nat.reduceSub, Nat.reduceLeDiff, Nat.reduceLT, Int.reduceGT, Int.reduceGE, Int.reduceBEq, Int.reduceBNe, reduceCtorEq, Nat.reduceAdd]
      intro i11 k5 k6 k7 k8 k9 k10
      simp (config := {maxSteps := 1000000}) only [n1, n2, k1, k2, k3, k4, k5, k6, k7, k8, k9, k10, r1, r2, r3, r4, r5, r6, r7, r8, r9, r10, r12, enc_unnil, beq_self_eq_true, ee, ea, eb, g1, g2, g3, q12n_eq, tb41n_e, tbLp_e, tbRt_e, tb25n_e, i_callNe, Int.natCast_nonneg, Nat.le_refl, Int.le_refl, List.take_succ_cons, List.take_zero, decide_true, decide_false, Bool.and_false, Bool.false_and, zz, zzN, zzF, zzD, zzM, cond_true, cond_false, ↓reduceIte, Nat.reduceEqDiff, Nat.reduceBEq, Int.reduceLT, Int.reduceLE, Int.reduceToNat, Int.reduceEq, Int.reduceAdd, Int.reduceSub, Int.reduceMul, Int.reduceNeg, Nat.reduceMul, Nat.reduceSub, Nat.reduceLeDiff, Nat.reduceLT, Int.reduceGT, Int.reduceGE, Int.reduceBEq, Int.reduceBNe, reduceCtorEq, Nat.reduceAdd]
  | some z =>
    obtain ⟨z1, z2, z3⟩ := atF_some ha
    have hzc : z.cnt ≤ x.cnt := cnt_mem x z (List.mem_of_getElem? z3)
    have s1n : q23n [.agg z.enc] = some (.agg z.enc) := qN_eq (by simp; omega)
    have s2n : q19n [.agg z.enc, .agg z.enc] = some (.bool true) := by rw [q19n_eq (by omega), sameN_self]
    have hac : ∀ (K : D → AHeap → Prop) (h : AHeap), askE 5 K h (Nd.encs (listF x)) p = K (.eptr z.enc 0) h := fun K h => by
      have := askE_encs (K := K) (h := h) z3
      rwa [Int.toNat_of_nonneg z1] at this
    have pz := part_enc z
    have hlz := len_enc z
    have g1 : (p ≥ 0) = True := eq_true z1
    have g2 : (p < ((Nd.encs (listF x)).length : Int)) = True := eq_true (by omega)
    have g3 : (p < 0) = False := eq_false (by omega)
    rw [ha] at r6
    simp only [Option.getD_some, Option.isSome_some] at r6
    generalize replF y x p = w at *
    have hlw := len_enc w
    generalize Nd.encs (listF x) = L at *
    clear ha hzc wx wy nx ny hz hrl
    obtain ⟨zk, zt, zs, zm, zl⟩ := z
    obtain ⟨xk, xt, xs, xm, xl⟩ := x
    obtain ⟨yk, yt, ys, ym, yl⟩ := y
    obtain ⟨wk, wt, ws, wm, wl⟩ := w
    simp only [enc_mk] at *
    simp (config := {maxSteps := 1000000}) only [s6n, ea, eb, g1, g2, g3, tb41n_e, tbLp_e, tbRt_e, tb25n_e, i_callNe, Int.natCast_nonneg, Nat.le_refl, Int.le_refl, List.take_succ_cons, List.take_zero, decide_true, decide_false, Bool.and_false, Bool.false_and, zz, zzN, zzF, zzD, zzM, cond_true, cond_false, ↓reduceIte, Nat.reduceEqDiff, Nat.reduceBEq, Int.reduceLT, Int.reduceLE, Int.reduceToNat, Int.reduceEq, Int.reduceAdd, Int.reduceSub, Int.reduceMul, Int.reduceNeg, Nat.reduceMul, Nat.reduceSub, Nat.reduceLeDiff, Nat.reduceLT, Int.reduceGT, Int.reduceGE, Int.reduceBEq, Int.reduceBNe, reduceCtorEq, Nat.reduceAdd]
    intro i5 i7 n1 n2
    simp (config := {maxSteps := 1000000}) only [n1, n2, r1, r2, r3, r4, r5, r6, ee, ea, eb, g1, g2, g3, q12n_eq, tb41n_e, tbLp_e, tbRt_e, tb25n_e, i_callNe, Int.natCast_nonneg, Nat.le_refl, Int.le_refl, List.take_succ_cons, List.take_zero, decide_true, decide_false, Bool.and_false, Bool.false_and, zz, zzN, zzF, zzD, zzM, cond_true, cond_false, ↓reduceIte, Nat.reduceEqDiff, Nat.reduceBEq, Int.reduceLT, Int.reduceLE, Int.reduceToNat, Int.reduceEq, Int.reduceAdd, Int.reduceSub, Int.reduceMul, Int.reduceNeg, Nat.reduceMul, Nat.reduceSub, Nat.reduceLeDiff, Nat.reduceLT, Int.reduceGT, Int.reduceGE, Int.reduceBEq, Int.reduceBNe, reduceCtorEq, Nat.reduceAdd]
    intro _ i9 k1 k2 k3 k4
    simp (config := {maxSteps := 1000000}) only [n1, n2, k1, k2, k3, k4, r1, r2, r3, r4, r5, r6, s1n, s2n, ee, ea, eb, hac, pz, g1, g2, g3, q12n_eq, tb41n_e, tbLp_e, tbRt_e, tb25n_e, i_callNe, Int.natCast_nonneg, Nat.le_refl, Int.le_refl, List.take_succ_cons, List.take_zero, decide_true, decide_false, Bool.and_false, Bool.false_and, zz, zzN, zzF, zzD, zzM, cond_true, cond_false, ↓reduceIte, Nat.reduceEqDiff, Nat.reduceBEq, Int.reduceLT, Int.reduceLE, Int.reduceToNat, Int.reduceEq, Int.reduceAdd, Int.reduceSub, Int.reduceMul, Int.reduceNeg, Nat.reduceMul, Nat.reduceSub, Nat.reduceLeDiff, Nat.reduceLT, Int.reduceGT, Int.reduceGE, Int.reduceBEq, Int.reduceBNe, reduceCtorEq, Nat.reduceAdd]
    intro i11 k5 k6 k7 k8 k9 k10
    simp (config := {maxSteps := 1000000}) only [n1, n2, k1, k2, k3, k4, k5, k6, k7, k8, k9, k10, r1, r2, r3, r4, r5, r6, r7, r8, r9, r10, r12, s1n, s2n, enc_unnil, beq_self_eq_true, ee, ea, eb, hac, pz, g1, g2, g3, q12n_eq, tb41n_e, tbLp_e, tbRt_e, tb25n_e, i_callNe, Int.natCast_nonneg, Nat.le_refl, Int.le_refl, List.take_succ_cons, List.take_zero, decide_true, decide_false, Bool.and_false, Bool.false_and, zz, zzN, zzF, zzD, zzM, cond_true, cond_false, ↓reduceIte, Nat.reduceEqDiff, Nat.reduceBEq, Int.reduceLT, Int.reduceLE, Int.reduceToNat, Int.reduceEq, Int.reduceAdd, Int.reduceSub, Int.reduceMul, Int.reduceNeg, Nat.reduceMul, Nat.reduceSub, Nat.reduceLeDiff, Nat.reduceLT, Int.reduceGT, Int.reduceGE, Int.reduceBEq, Int.reduceBNe, reduceCtorEq, Nat.reduceAdd]
end
open Go.RowKit
section
variable {H : Type} {enc : TypeId × Value → H} {P : Program} {w : World} {spare : Nat → Bool} {held : Bool}
theorem tr_rep {κ : Kap} {t : TypeId} {f0 f1 f2 f3 f4 : Field} {cs : Array Value} {d : DataW H} {ps : List MemPlace} (he : P.underlying t = some (.struct #[f0, f1, f2, f3, f4]))
    (h0 : P.underlying f0.type = some (.int .i64)) (h1 : P.underlying f1.type = some (.int .i64)) (h2 : P.underlying f2.type = some .string) (h3 : P.underlying f3.type = some (.int .i64)) (h4 : P.underlying f4.type = some (.int .i64))
    (c0n : P.cellsOf f0.type = 1) (c1n : P.cellsOf f1.type = 1) (c2n : P.cellsOf f2.type = 1) (c3n : P.cellsOf f3.type = 1) (c4n : P.cellsOf f4.type = 1)
    (o0 : f0.offset = 0) (o1 : f1.offset = 1) (o2 : f2.offset = 2) (o3 : f3.offset = 3) (o4 : f4.offset = 4) (hc : P.cellsOf t = 5)
    (h : DataW.Trod enc P w 0 spare held t (.agg cs) d ps) : ∃ x : Tr, trOk [x] ∧ Rep κ w (.agg cs) (.agg (encT5 x)) := by
  obtain ⟨fuel, hf⟩ := h
  obtain ⟨x, q, hl, r⟩ := tr_cells he h0 h1 h2 h3 h4 c0n c1n c2n c3n c4n o0 o1 o2 o3 o4 hc hf
  have hl' : cs.size = 5 := hl
  refine ⟨x, fun y hy => by rw [List.mem_singleton.1 hy]; exact q, .agg hl' fun i d hd => ?_⟩
  obtain ⟨v, e1, e2⟩ := r κ i d hd
  have e3 : cs[i]? = some v := by simpa [Value.cells] using e1
  simpa [Array.getD_eq_getD_getElem?, e3] using e2
end
theorem astPlaces_i {l : List Tr} {p : Int} {x : Tr} (h : trOk l) (hp : (Lit.int .i64 p).wf = true) (hx : trOk [x]) : PCall Tryd.prog 6 [.sl (encTs l), .int .i64 p, .agg (encT5 x)] (.bool true) := astPlaces_c l p x h (wf_i64 hp) hx
end Go.Proofs.YthpgepillaeldaaDoor.Zz
