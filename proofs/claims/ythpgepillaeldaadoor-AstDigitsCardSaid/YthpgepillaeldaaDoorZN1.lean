/- Contracts: numbers as texts, texts joined, cut and trimmed (Go's library). -/
import Derived.Test.YthpgepillaeldaaDoorZZB
import Derived.Test.YthpgepillaeldaaDoorZY
import Derived.Test.YthpgepillaeldaaDoorZG0
import Derived.Test.YthpgepillaeldaaDoorZH0
import Derived.Test.YthpgepillaeldaaDoorProg
namespace Go.Proofs.YthpgepillaeldaaDoor.Zz
open Go.RowKit
set_option linter.unusedVariables false
set_option linter.unusedSimpArgs false
set_option maxRecDepth 20000
def p33n : Plan := ⟨⟨[], [(6, 3)], [], [], [], []⟩, []⟩
/-- internal/strconv.FormatUint (2 parameters, 0 captured) -/
def s33n : Stm :=
  .seq (.ops [⟨.mov (.c (.str [])), (some 4), none, true⟩])
  (.seq (.seq (.ops [⟨.mov (.t 1), (some 9), none, true⟩,
      ⟨.bin .eql (.t 9) (.c (.int .i64 10)), (some 10), none, true⟩])
   (.cond (.t 10)
    (.seq (.seq (.ops [⟨.mov (.t 0), (some 11), none, true⟩,
         ⟨.bin .lss (.t 11) (.c (.int .u64 100)), (some 12), none, true⟩])
      (.cond (.t 12)
       (.seq (.ops [⟨.mov (.t 0), (some 13), none, true⟩,
           ⟨.conv (.intInt .i64) (.t 13), (some 14), none, true⟩,
           ⟨.qcall (.f 53) [(.t 14)], (some 15), none, false⟩,
           ⟨.mov (.t 15), (some 4), none, true⟩])
        (.ret))
       (.skip)))
     (.seq (.ops [⟨.alloc [(.int .u8 0), (.int .u8 0), (.int .u8 0), (.int .u8 0), (.int .u8 0), (.int .u8 0), (.int .u8 0), (.int .u8 0), (.int .u8 0), (.int .u8 0), (.int .u8 0), (.int .u8 0), (.int .u8 0), (.int .u8 0), (.int .u8 0), (.int .u8 0), (.int .u8 0), (.int .u8 0), (.int .u8 0), (.int .u8 0), (.int .u8 0), (.int .u8 0), (.int .u8 0), (.int .u8 0)], (some 5), none, false⟩])
     (.seq (.ops [⟨.mov (.t 0), (some 16), none, true⟩,
        ⟨.qcall (.f 54) [(.t 16)], (some 17), none, false⟩,
        ⟨.mov (.t 17), (some 6), none, true⟩])
     (.seq (.ops [⟨.mov (.t 6), (some 18), none, true⟩,
        ⟨.slice (.arr 24) (.t 5) none (some (.t 18)) none, (some 19), none, false⟩,
        ⟨.mov (.t 0), (some 20), none, true⟩,
        ⟨.call (.f 55) [(.t 19), (.t 20)], (some 21), none, false⟩])
     (.seq (.ops [⟨.mov (.t 6), (some 22), none, true⟩,
        ⟨.slice (.arr 24) (.t 5) none (some (.t 22)) none, (some 23), none, false⟩,
        ⟨.conv .bytesStr (.t 23), (some 24), none, false⟩,
        ⟨.mov (.t 24), (some 4), none, true⟩])
     (.ret))))))
    (.skip)))
  (.seq (.ops [⟨.mov (.t 0), (some 26), none, true⟩,
     ⟨.mov (.t 1), (some 27), none, true⟩,
     ⟨.qcall (.f 56) [(.c .nilsl), (.t 26), (.t 27), (.c (.bool false)), (.c (.bool false))], (some 28), none, false⟩,
     ⟨.mov (.t 28), (some 25), none, true⟩,
     ⟨.extract (.t 25) 0, (some 29), none, true⟩,
     ⟨.extract (.t 25) 1, (some 30), none, true⟩,
     ⟨.mov (.t 29), (some 7), none, true⟩,
     ⟨.mov (.t 30), (some 8), none, true⟩])
  (.seq (.ops [⟨.mov (.t 8), (some 31), none, true⟩,
     ⟨.mov (.t 31), (some 4), none, true⟩])
  (.ret))))
theorem st33n : stmOf Tryd.prog 33 p33n = some (s33n, [.tmp 4], 32) := by kernel_rfl

def p8n : Plan := ⟨⟨[], [], [], [], [], []⟩, []⟩
/-- strconv.FormatUint (2 parameters, 0 captured) -/
def s8n : Stm :=
  .seq (.ops [⟨.mov (.c (.str [])), (some 4), none, true⟩])
  (.seq (.ops [⟨.mov (.t 0), (some 5), none, true⟩,
     ⟨.mov (.t 1), (some 6), none, true⟩,
     ⟨.qcall (.f 33) [(.t 5), (.t 6)], (some 7), none, false⟩,
     ⟨.mov (.t 7), (some 4), none, true⟩])
  (.ret))
theorem st8n : stmOf Tryd.prog 8 p8n = some (s8n, [.tmp 4], 8) := by kernel_rfl

theorem tabP [Globs] {κ : Kap} {w : World} (h : GlobRep κ w) (e : Globs.of (Tryd.prog.globalNamed "internal/strconv.uint64pow10").get! = some (Lib.pow10Tab.map fun z => .int .u64 z)) : Lib.TabIs Tryd.prog w "internal/strconv.uint64pow10" .u64 Lib.pow10Tab :=
  tab_of h (by kernel_rfl) e
theorem pow_eq : Globs.of (Tryd.prog.globalNamed "internal/strconv.uint64pow10").get! = some (Lib.pow10Tab.map fun z => .int .u64 z) := by kernel_rfl
theorem nDigits_le : ∀ (k u : Nat), u < 10 ^ (k + 1) → Lib.nDigits u ≤ k + 1
  | 0, u, h => by rw [Lib.nDigits_small (by simpa using h)]; exact Nat.le_refl _
  | k + 1, u, h => by
    by_cases c : u < 10
    · rw [Lib.nDigits_small c]; omega
    · rw [Lib.nDigits_big c]
      have := nDigits_le k (u / 10) (by rw [Nat.div_lt_iff_lt_mul (by omega)]; rw [Nat.pow_succ] at h; exact h)
      omega
theorem itoa_len (n : Int) (h0 : -9223372036854775808 ≤ n) (h1 : n ≤ 9223372036854775807) : (Lib.itoa n).length ≤ 21 := by
  unfold Lib.itoa
  have key : ∀ u : Nat, u ≤ 9223372036854775808 → (Lib.decDigits u).length ≤ 20 := fun u hu => by
    rw [Lib.decDigits_length]
    exact nDigits_le 19 u (by omega)
  split
  · have := key n.natAbs (by omega)
    simp only [List.length_cons]; omega
  · have := key n.toNat (by omega)
    omega
theorem maxLen_eq : Globs.ints (Tryd.prog.globalNamed "internal/bytealg.MaxLen").get! = some .i64 := by kernel_rfl
theorem fmtInt_c (n : Int) (h0 : -9223372036854775808 ≤ n) (h1 : n ≤ 9223372036854775807) : PCall Tryd.prog 97 [.int .i64 n, .int .i64 10] (.str (Lib.itoa n)) := by
  refine PCall.of_below (by kernel_rfl) fun κ w vs hg hr _ => ?_
  obtain ⟨vl⟩ := vs
  cases hr with
  | cons r1 hr =>
    cases hr with
    | cons r2 hr =>
      cases hr
      rw [rep_int_inv r1, rep_int_inv r2]
      refine (Tryd.strconv_FormatInt_10 n h0 h1 w (tabP hg pow_eq)).mono fun e w' ⟨e1, k, os, e2⟩ => ⟨_, e1, fun _ _ => .str _ ?_, by rw [e2]; exact below_grow w k os⟩
      have := itoa_len n h0 h1; omega
def q97n : List D → Option D
  | [.int .i64 n, .int .i64 b] => if b = 10 ∧ -9223372036854775808 ≤ n ∧ n ≤ 9223372036854775807 then some (.str (Lib.itoa n)) else none
  | _ => none
theorem q97n_ok (args : List D) (d : D) (h : q97n args = some d) : PCall Tryd.prog 97 args d := by
  unfold q97n at h
  split at h
  · split at h
    · rename_i c
      cases h
      rw [c.1]
      exact fmtInt_c _ c.2.1 c.2.2
    · cases h
  · cases h
theorem q97n_eq {n : Int} (h0 : -9223372036854775808 ≤ n) (h1 : n ≤ 9223372036854775807) : q97n [.int .i64 n, .int .i64 10] = some (.str (Lib.itoa n)) := by
  simp only [q97n]
  rw [if_pos ⟨trivial, h0, h1⟩]
def tb97n : Tab := Tab.zero.addQ 97 q97n
theorem tb97n_q (g : FuncId) (args : List D) : tb97n.q g args = if g = 97 then q97n args else Tab.zero.q g args := rfl
theorem tb97n_a : tb97n.a = Tab.zero.a := rfl
theorem tb97n_c : tb97n.c = Tab.zero.c := rfl
theorem tb97n_ok : tb97n.ok Tryd.prog := Tab.addQ_ok (Tab.zero_ok _) q97n_ok
theorem tb97n_e : type_of% (And.intro @tb97n_q (And.intro @tb97n_a @tb97n_c)) := (And.intro @tb97n_q (And.intro @tb97n_a @tb97n_c))

theorem numDigits_c (u : Int) (h : 1 ≤ u ∧ u < 18446744073709551616) : PCall Tryd.prog 54 [.int .u64 u] (.int .i64 (Lib.nDigits u.toNat)) := by
  refine PCall.of_below (by kernel_rfl) fun κ w vs hg hr _ => ?_
  obtain ⟨vl⟩ := vs
  cases hr with
  | cons r1 hr =>
    cases hr
    rw [rep_int_inv r1]
    have e0 : u = ((u.toNat : Nat) : Int) := by omega
    have := Tryd.internal_strconv_numDigits u.toNat (by omega) (by omega) w (tabP hg pow_eq)
    rw [← e0] at this
    exact this.mono fun e w' ⟨e1, e2⟩ => ⟨_, e1, fun _ _ => .int _ _, by rw [e2]; exact Below.refl _ _⟩
def q54n : List D → Option D
  | [.int .u64 u] => if 1 ≤ u ∧ u < 18446744073709551616 then some (.int .i64 (Lib.nDigits u.toNat)) else none
  | _ => none
theorem q54n_ok (args : List D) (d : D) (h : q54n args = some d) : PCall Tryd.prog 54 args d := by
  unfold q54n at h
  split at h
  · split at h
    · cases h; exact numDigits_c _ (by assumption)
    · cases h
  · cases h

def tb54n : Tab := tb97n.addQ 54 q54n
theorem tb54n_q (g : FuncId) (args : List D) : tb54n.q g args = if g = 54 then q54n args else tb97n.q g args := rfl
theorem tb54n_a : tb54n.a = tb97n.a := rfl
theorem tb54n_c : tb54n.c = tb97n.c := rfl
theorem tb54n_ok : tb54n.ok Tryd.prog := Tab.addQ_ok tb97n_ok q54n_ok
theorem tb54n_e : type_of% (And.intro (And.intro @tb54n_q (And.intro @tb54n_a @tb54n_c)) @tb97n_e) := (And.intro (And.intro @tb54n_q (And.intro @tb54n_a @tb54n_c)) @tb97n_e)

theorem small_c (u : Int) (h : 0 ≤ u ∧ u < 100) : PCall Tryd.prog 53 [.int .i64 u] (.str (Lib.decDigits u.toNat)) := by
  refine PCall.of_below (by kernel_rfl) fun κ w vs hg hr _ => ?_
  obtain ⟨vl⟩ := vs
  cases hr with
  | cons r1 hr =>
    cases hr
    rw [rep_int_inv r1]
    have e0 : u = ((u.toNat : Nat) : Int) := by omega
    have := Tryd.internal_strconv_small u.toNat (by omega) w
    rw [← e0] at this
    refine this.mono fun e w' ⟨e1, e2⟩ => ⟨_, e1, fun _ _ => .str _ ?_, by rw [e2]; exact Below.refl _ _⟩
    rw [Lib.decDigits_length]
    have := nDigits_le 1 u.toNat (by omega)
    omega
def q53n : List D → Option D
  | [.int .i64 u] => if 0 ≤ u ∧ u < 100 then some (.str (Lib.decDigits u.toNat)) else none
  | _ => none
theorem q53n_ok (args : List D) (d : D) (h : q53n args = some d) : PCall Tryd.prog 53 args d := by
  unfold q53n at h
  split at h
  · split at h
    · cases h; exact small_c _ (by assumption)
    · cases h
  · cases h

def tb53n : Tab := tb54n.addQ 53 q53n
theorem tb53n_q (g : FuncId) (args : List D) : tb53n.q g args = if g = 53 then q53n args else tb54n.q g args := rfl
theorem tb53n_a : tb53n.a = tb54n.a := rfl
theorem tb53n_c : tb53n.c = tb54n.c := rfl
theorem tb53n_ok : tb53n.ok Tryd.prog := Tab.addQ_ok tb54n_ok q53n_ok
theorem tb53n_e : type_of% (And.intro (And.intro @tb53n_q (And.intro @tb53n_a @tb53n_c)) @tb54n_e) := (And.intro (And.intro @tb53n_q (And.intro @tb53n_a @tb53n_c)) @tb54n_e)

def digs (u n : Nat) : List UInt8 := (List.range n).map fun t => Lib.dg u (n - 1 - t)
theorem base10_c (h : AHeap) (id n u : Nat) (l : List UInt8) (hid : h.f id = some (.cells (encC l))) (hn : n ≤ l.length) (h0 : 0 < n) (hu : u < 10 ^ n) (hu2 : u < 18446744073709551616) (hl : l.length < 4611686018427387904) :
    ACalls Tryd.prog 55 [.csl id 0 n, .int .u64 u] h fun o h' => o = .ret (.tuple []) ∧ h' = h.set id (.cells (encC (digs u n ++ l.drop n))) := by
  refine (ACalls.of_bytes (Q := fun r => r = digs u n) (by kernel_rfl) hid (by omega) h0 fun κ w vs blk cap hg hr hold => ?_).mono fun o h' ⟨e1, r, e2, e3, e4⟩ => ⟨e1, by rw [e4, e2]; simp⟩
  cases hr with
  | cons r1 hr =>
    cases hr
    rw [rep_int_inv r1]
    have hs : ((l.drop 0).take n).toArray.size = n := by simp; omega
    have := Tryd.internal_strconv_formatBase10 blk 0 cap u ((l.drop 0).take n).toArray w hold (by rw [hs]; exact hu) hu2 (by rw [hs]; omega)
    rw [hs] at this
    refine this.mono fun e w' ⟨e1, N, v', dk, e2, e3⟩ => ⟨e1, N, dk, e2, e3.size, ?_⟩
    have hd := e3.done
    have hz := e3.size
    apply List.ext_getElem
    · simp [digs, hz]
    · intro t t1 t2
      have h1 : t < n := by simp [hz] at t1; exact t1
      have := hd t (Nat.zero_le _) h1
      rw [getElem!_pos _ t (by omega)] at this
      simp only [digs, List.getElem_map, List.getElem_range, ← this, Array.getElem_toList]
def c55n (args : List D) (h : AHeap) (K : D → AHeap → Prop) : Prop :=
  ∃ (id n u : Nat) (l : List UInt8), args = [.csl id 0 n, .int .u64 u] ∧ h.f id = some (.cells (encC l)) ∧ n ≤ l.length ∧ 0 < n ∧ u < 10 ^ n ∧ u < 18446744073709551616 ∧ l.length < 4611686018427387904 ∧ K (.tuple []) (h.set id (.cells (encC (digs u n ++ l.drop n))))
theorem c55n_mono (args : List D) (h : AHeap) (K K' : D → AHeap → Prop) (hk : ∀ d h, K d h → K' d h) (c : c55n args h K) : c55n args h K' := by
  obtain ⟨id, n, u, l, e, h1, h2, h3, h4, h5, h6, k⟩ := c
  exact ⟨id, n, u, l, e, h1, h2, h3, h4, h5, h6, hk _ _ k⟩
theorem c55n_ok (args : List D) (h : AHeap) (K : D → AHeap → Prop) (c : c55n args h K) : ACalls Tryd.prog 55 args h fun o h' => ∃ d, o = .ret d ∧ K d h' := by
  obtain ⟨id, n, u, l, rfl, h1, h2, h3, h4, h5, h6, k⟩ := c
  refine (base10_c h id n u l h1 h2 h3 h4 h5 h6).mono fun o h' ⟨e1, e2⟩ => ⟨_, e1, by rw [e2]; exact k⟩
def tb55n : Tab := tb53n.addW 55 c55n c55n_mono
theorem tb55n_q : tb55n.q = tb53n.q := rfl
theorem tb55n_a : tb55n.a = tb53n.a := rfl
theorem tb55n_c (g : FuncId) (args : List D) (h : AHeap) (K E : D → AHeap → Prop) : tb55n.c g args h K E = if g = 55 then c55n args h K else tb53n.c g args h K E := rfl
theorem tb55n_ok : tb55n.ok Tryd.prog := Tab.addW_ok tb53n_ok c55n_ok
theorem tb55n_e : type_of% (And.intro (And.intro @tb55n_q (And.intro @tb55n_a @tb55n_c)) @tb53n_e) := (And.intro (And.intro @tb55n_q (And.intro @tb55n_a @tb55n_c)) @tb53n_e)

theorem fmtUint_c (u : Nat) (hu : u < 18446744073709551616) : PCall Tryd.prog 33 [.int .u64 u, .int .i64 10] (.str (Lib.decDigits u)) := by
  refine PCall.run tb55n_ok st33n (by simp) fun E => ?_
  by_cases c : u < 100
  · have g : ((u : Int) < 100) = True := eq_true (by omega)
    have w : IntKind.i64.wrap (u : Int) = u := by rw [wrap_i64 (by omega) (by omega)]
    have q : q53n [.int .i64 u] = some (.str (Lib.decDigits u)) := by
      simp only [q53n]
      rw [if_pos ⟨by omega, by omega⟩, Int.toNat_natCast]
    simp (config := {maxSteps := 1000000}) only [s33n, g, w, q, tb55n_e, i_callNe, keptAt, Int.natCast_nonneg, Nat.le_refl, Int.le_refl, List.take_succ_cons, List.take_zero, decide_true, decide_false, Bool.and_false, Bool.false_and, zz, zzN, zzF, fltEv, isArithF, ↓reduceIte, Nat.reduceEqDiff, Nat.reduceBEq, Int.reduceLT, Int.reduceLE, Int.reduceToNat, Int.reduceEq, Int.reduceAdd, Int.reduceSub, Int.reduceMul, Int.reduceNeg, Nat.reduceMul, Nat.reduceSub, Nat.reduceLeDiff, Nat.reduceLT, Int.reduceGT, Int.reduceGE, Int.reduceBEq, Int.reduceBNe, reduceCtorEq, Nat.reduceAdd, Ins.map, Fr.ev, argFr, argE, binEv, intEv, shEv, strEv, unEv, Fr.mark, evRes, tup, lenD, lookupD, loadD, partD, storeD, cellsD, cellOk, setAt, objNe, objSame, eqEv, readEv, lent_bool, lent_int, lent_float, lent_str, lent_agg, lent_tuple, lent_sl, lent_func, lent_iface, lent_nilif, lent_same, buildD, buildRows, rowsOf, elemsOf, normX, unnil, isNil, List.any_cons, List.any_nil, List.map_cons, List.map_nil, Bool.or_false, Bool.false_or, Bool.or_true, Bool.true_or, cond_true, cond_false]
  · have g : ((u : Int) < 100) = False := eq_false (by omega)
    have q : q54n [.int .u64 u] = some (.int .i64 (Lib.nDigits u)) := by
      simp only [q54n]
      rw [if_pos ⟨by omega, by omega⟩, Int.toNat_natCast]
    have hd := nDigits_le 19 u (by omega)
    have h1 := Lib.nDigits_pos u
    have h2 := Lib.lt_pow_nDigits u
    have ed : Lib.decDigits u = digs u (Lib.nDigits u) := Lib.decDigits_eq u
    generalize Lib.nDigits u = n at *
    have hs : ∀ e : Nat, sliceEv (.arr 24) (.ptr e 1 0) none (some (.int .i64 n)) none = some (.csl e 0 n) := fun e => by
      simp [sliceEv, bounds, intOfD]
      omega
    simp (config := {maxSteps := 1000000}) only [s33n, g, q, hs, tb55n_e, i_callNe, keptAt, Int.natCast_nonneg, Nat.le_refl, Int.le_refl, List.take_succ_cons, List.take_zero, decide_true, decide_false, Bool.and_false, Bool.false_and, zz, zzN, zzF, fltEv, isArithF, ↓reduceIte, Nat.reduceEqDiff, Nat.reduceBEq, Int.reduceLT, Int.reduceLE, Int.reduceToNat, Int.reduceEq, Int.reduceAdd, Int.reduceSub, Int.reduceMul, Int.reduceNeg, Nat.reduceMul, Nat.reduceSub, Nat.reduceLeDiff, Nat.reduceLT, Int.reduceGT, Int.reduceGE, Int.reduceBEq, Int.reduceBNe, reduceCtorEq, Nat.reduceAdd, Ins.map, Fr.ev, argFr, argE, binEv, intEv, shEv, strEv, unEv, Fr.mark, evRes, tup, lenD, lookupD, loadD, partD, storeD, cellsD, cellOk, setAt, objNe, objSame, eqEv, readEv, lent_bool, lent_int, lent_float, lent_str, lent_agg, lent_tuple, lent_sl, lent_func, lent_iface, lent_nilif, lent_same, buildD, buildRows, rowsOf, elemsOf, normX, unnil, isNil, List.any_cons, List.any_nil, List.map_cons, List.map_nil, Bool.or_false, Bool.false_or, Bool.or_true, Bool.true_or, cond_true, cond_false]
    intro e
    refine ⟨e, n, u, List.replicate 24 0, rfl, ?_, by simp; omega, h1, h2, hu, by simp, ?_⟩
    · simp [encC, List.replicate]
    rw [AHeap.set_set]
    have hl : (digs u n ++ (List.replicate 24 (0 : UInt8)).drop n).take n = digs u n := by
      rw [List.take_append_of_le_length (by simp [digs]), List.take_of_length_le (by simp [digs])]
    generalize hX : digs u n ++ (List.replicate 24 (0 : UInt8)).drop n = X at *
    have hXl : n ≤ X.length := by rw [← hX]; simp [digs]
    have hc : ∀ (K E : D → AHeap → Prop), vcI tb55n (.conv .bytesStr (.csl e 0 n)) (AHeap.emp.set e (.cells (encC X))) K E = K (.str ((X.drop 0).take n)) (AHeap.emp.set e (.cells (encC X))) := fun K E => i_str_cslAt (by simp) (by omega)
    simp (config := {maxSteps := 1000000}) only [hs, hc, hl, ed, tb55n_e, i_callNe, keptAt, Int.natCast_nonneg, Nat.le_refl, Int.le_refl, List.take_succ_cons, List.take_zero, decide_true, decide_false, Bool.and_false, Bool.false_and, zz, zzN, zzF, fltEv, isArithF, ↓reduceIte, Nat.reduceEqDiff, Nat.reduceBEq, Int.reduceLT, Int.reduceLE, Int.reduceToNat, Int.reduceEq, Int.reduceAdd, Int.reduceSub, Int.reduceMul, Int.reduceNeg, Nat.reduceMul, Nat.reduceSub, Nat.reduceLeDiff, Nat.reduceLT, Int.reduceGT, Int.reduceGE, Int.reduceBEq, Int.reduceBNe, reduceCtorEq, Nat.reduceAdd, Ins.map, Fr.ev, argFr, argE, binEv, intEv, shEv, strEv, unEv, Fr.mark, evRes, tup, lenD, lookupD, loadD, partD, storeD, cellsD, cellOk, setAt, objNe, objSame, eqEv, readEv, lent_bool, lent_int, lent_float, lent_str, lent_agg, lent_tuple, lent_sl, lent_func, lent_iface, lent_nilif, lent_same, buildD, buildRows, rowsOf, elemsOf, normX, unnil, isNil, List.any_cons, List.any_nil, List.map_cons, List.map_nil, Bool.or_false, Bool.false_or, Bool.or_true, Bool.true_or, cond_true, cond_false]
theorem of_nat10 {f : FuncId} (k : ∀ u : Nat, u < 18446744073709551616 → PCall Tryd.prog f [.int .u64 u, .int .i64 10] (.str (Lib.decDigits u))) (u b : Int) (h : b = 10 ∧ 0 ≤ u ∧ u < 18446744073709551616) : PCall Tryd.prog f [.int .u64 u, .int .i64 b] (.str (Lib.decDigits u.toNat)) := by
  obtain ⟨rfl, c1n, c2n⟩ := h
  have := k u.toNat (by omega)
  rwa [show ((u.toNat : Nat) : Int) = u by omega] at this
theorem len_dropWhile (p : UInt8 → Bool) : ∀ l : List UInt8, (l.dropWhile p).length ≤ l.length
  | [] => by simp
  | x :: l => by
    rw [List.dropWhile_cons]
    split
    · have := len_dropWhile p l; simp; omega
    · simp
def q33n : List D → Option D
  | [.int .u64 u, .int .i64 b] => if b = 10 ∧ 0 ≤ u ∧ u < 18446744073709551616 then some (.str (Lib.decDigits u.toNat)) else none
  | _ => none
theorem q33n_ok (args : List D) (d : D) (h : q33n args = some d) : PCall Tryd.prog 33 args d := by
  unfold q33n at h
  split at h
  · split at h
    · cases h; exact of_nat10 (fun u hu => fmtUint_c u hu) _ _ (by assumption)
    · cases h
  · cases h

def tb33n : Tab := tb55n.addQ 33 q33n
theorem tb33n_q (g : FuncId) (args : List D) : tb33n.q g args = if g = 33 then q33n args else tb55n.q g args := rfl
theorem tb33n_a : tb33n.a = tb55n.a := rfl
theorem tb33n_c : tb33n.c = tb55n.c := rfl
theorem tb33n_ok : tb33n.ok Tryd.prog := Tab.addQ_ok tb55n_ok q33n_ok
theorem tb33n_e : type_of% (And.intro (And.intro @tb33n_q (And.intro @tb33n_a @tb33n_c)) @tb55n_e) := (And.intro (And.intro @tb33n_q (And.intro @tb33n_a @tb33n_c)) @tb55n_e)

theorem fmtUint8_c (u : Nat) (hu : u < 18446744073709551616) : PCall Tryd.prog 8 [.int .u64 u, .int .i64 10] (.str (Lib.decDigits u)) := by
  refine PCall.run tb33n_ok st8n (by simp) fun E => ?_
  have q : q33n [.int .u64 u, .int .i64 10] = some (.str (Lib.decDigits u)) := by
    simp only [q33n]
    rw [if_pos ⟨trivial, by omega, by omega⟩, Int.toNat_natCast]
  simp (config := {maxSteps := 1000000}) only [s8n, q, tb33n_e, i_callNe, keptAt, Int.natCast_nonneg, Nat.le_refl, Int.le_refl, List.take_succ_cons, List.take_zero, decide_true, decide_false, Bool.and_false, Bool.false_and, zz, zzN, zzF, fltEv, isArithF, ↓reduceIte, Nat.reduceEqDiff, Nat.reduceBEq, Int.reduceLT, Int.reduceLE, Int.reduceToNat, Int.reduceEq, Int.reduceAdd, Int.reduceSub, Int.reduceMul, Int.reduceNeg, Nat.reduceMul, Nat.reduceSub, Nat.reduceLeDiff, Nat.reduceLT, Int.reduceGT, Int.reduceGE, Int.reduceBEq, Int.reduceBNe, reduceCtorEq, Nat.reduceAdd, Ins.map, Fr.ev, argFr, argE, binEv, intEv, shEv, strEv, unEv, Fr.mark, evRes, tup, lenD, lookupD, loadD, partD, storeD, cellsD, cellOk, setAt, objNe, objSame, eqEv, readEv, lent_bool, lent_int, lent_float, lent_str, lent_agg, lent_tuple, lent_sl, lent_func, lent_iface, lent_nilif, lent_same, buildD, buildRows, rowsOf, elemsOf, normX, unnil, isNil, List.any_cons, List.any_nil, List.map_cons, List.map_nil, Bool.or_false, Bool.false_or, Bool.or_true, Bool.true_or, cond_true, cond_false]
def q8n : List D → Option D
  | [.int .u64 u, .int .i64 b] => if b = 10 ∧ 0 ≤ u ∧ u < 18446744073709551616 then some (.str (Lib.decDigits u.toNat)) else none
  | _ => none
theorem q8n_ok (args : List D) (d : D) (h : q8n args = some d) : PCall Tryd.prog 8 args d := by
  unfold q8n at h
  split at h
  · split at h
    · cases h; exact of_nat10 (fun u hu => fmtUint8_c u hu) _ _ (by assumption)
    · cases h
  · cases h

theorem q8n_eqN {u : Nat} (hu : u < 18446744073709551616) : q8n [.int .u64 u, .int .i64 10] = some (.str (Lib.decDigits u)) := by
  simp only [q8n]
  rw [if_pos ⟨trivial, by omega, by omega⟩, Int.toNat_natCast]
def tb8n : Tab := tb33n.addQ 8 q8n
theorem tb8n_q (g : FuncId) (args : List D) : tb8n.q g args = if g = 8 then q8n args else tb33n.q g args := rfl
theorem tb8n_a : tb8n.a = tb33n.a := rfl
theorem tb8n_c : tb8n.c = tb33n.c := rfl
theorem tb8n_ok : tb8n.ok Tryd.prog := Tab.addQ_ok tb33n_ok q8n_ok
theorem tb8n_e : type_of% (And.intro (And.intro @tb8n_q (And.intro @tb8n_a @tb8n_c)) @tb33n_e) := (And.intro (And.intro @tb8n_q (And.intro @tb8n_a @tb8n_c)) @tb33n_e)

theorem join_map (l : List (List UInt8)) : (l.map fun s => (⟨s.toArray⟩ : ByteArray)).map (·.data.toList) = l := by
  rw [List.map_map]
  exact (List.map_congr_left fun _ _ => rfl).trans (List.map_id l)
theorem join_c (l : List (List UInt8)) (sep : List UInt8) (h : l.length ≤ 140737488355328 ∧ (Lib.join l sep).length ≤ 140737488355328) : PCall Tryd.prog 100 [.sl (encS l), .str sep] (.str (Lib.join l sep)) := by
  refine PCall.of_below (by kernel_rfl) fun κ w vs hg hr him => ?_
  obtain ⟨vl⟩ := vs
  cases hr with
  | cons r1 hr =>
    cases hr with
    | cons r2 hr =>
      cases hr
      rw [(rep_str_inv r2).1]
      rcases rep_encS_inv r1 with ⟨e, a, c, hv⟩ | ⟨b, o, cap, hv, hc, hcell⟩
      · subst e hv
        exact (Tryd.strings_Join_none a c ⟨sep.toArray⟩ w).mono fun e w' ⟨e1, e2⟩ => ⟨_, e1, fun _ _ => .str [] (by simp), by rw [e2]; exact Below.refl _ _⟩
      · subst hv
        by_cases h0 : l = []
        · subst h0
          exact (Tryd.strings_Join_none (some ⟨b, o, none⟩) cap ⟨sep.toArray⟩ w).mono fun e w' ⟨e1, e2⟩ => ⟨_, e1, fun _ _ => .str [] (by simp), by rw [e2]; exact Below.refl _ _⟩
        obtain ⟨x, hx⟩ : ∃ x, l[0]? = some x := by
          cases l with
          | nil => exact absurd rfl h0
          | cons x l => exact ⟨x, rfl⟩
        have key := Tryd.strings_Join b o cap (l.map fun s => (⟨s.toArray⟩ : ByteArray)) ⟨sep.toArray⟩ w (fun j x hj => by
          simp only [List.getElem?_map, Option.map_eq_some_iff] at hj
          obtain ⟨s, hs, rfl⟩ := hj
          exact (hcell j s hs).2) (him b (hcell 0 x hx).1) (by simpa using h.1) (by simpa using hc) (by rw [join_map]; exact h.2)
        rw [join_map, List.length_map] at key
        exact key.mono fun e w' ⟨e1, e2⟩ => ⟨_, e1, fun _ _ => .str (Lib.join l sep) (by have := h.2; omega), e2⟩
def q100n : List D → Option D
  | [.sl l', .str s] => match decS l' with
    | some l => if l.length ≤ 140737488355328 ∧ (Lib.join l s).length ≤ 140737488355328 then some (.str (Lib.join l s)) else none
    | _ => none
  | _ => none
theorem q100n_ok (args : List D) (d : D) (h : q100n args = some d) : PCall Tryd.prog 100 args d := by
  unfold q100n at h
  split at h
  · split at h
    · rename_i e0
      cases decS_some e0
      split at h
      · cases h; exact join_c _ _ (by assumption)
      · cases h
    · cases h
  · cases h

theorem q100n_eq {l : List (List UInt8)} {s : List UInt8} (h : l.length ≤ 140737488355328 ∧ (Lib.join l s).length ≤ 140737488355328) : q100n [.sl (encS l), .str s] = some (.str (Lib.join l s)) := by
  simp only [q100n, decS_enc]
  rw [if_pos h]
def tb100n : Tab := tb8n.addQ 100 q100n
theorem tb100n_q (g : FuncId) (args : List D) : tb100n.q g args = if g = 100 then q100n args else tb8n.q g args := rfl
theorem tb100n_a : tb100n.a = tb8n.a := rfl
theorem tb100n_c : tb100n.c = tb8n.c := rfl
theorem tb100n_ok : tb100n.ok Tryd.prog := Tab.addQ_ok tb8n_ok q100n_ok
theorem tb100n_e : type_of% (And.intro (And.intro @tb100n_q (And.intro @tb100n_a @tb100n_c)) @tb8n_e) := (And.intro (And.intro @tb100n_q (And.intro @tb100n_a @tb100n_c)) @tb8n_e)

theorem trimL_c (s : List UInt8) : PCall Tryd.prog 50 [.str s, .str [48]] (.str (Lib.trimLeftB s 48)) := by
  refine PCall.of_below (by kernel_rfl) fun κ w vs hg hr him => ?_
  obtain ⟨vl⟩ := vs
  cases hr with
  | cons r1 hr =>
    cases hr with
    | cons r2 hr =>
      cases hr
      obtain ⟨e1, hl⟩ := rep_str_inv r1
      rw [e1, (rep_str_inv r2).1]
      refine (Tryd.strings_TrimLeft_one ⟨s.toArray⟩ 48 (by decide) w).mono fun e w' ⟨e1, e2⟩ => ⟨_, e1, fun _ _ => .str (Lib.trimLeftB s 48) ?_, by rw [e2]; exact Below.refl _ _⟩
      have : (Lib.trimLeftB s 48).length ≤ s.length := by unfold Lib.trimLeftB; exact len_dropWhile _ _
      omega
theorem trimR_c (s : List UInt8) : PCall Tryd.prog 51 [.str s, .str [48]] (.str (Lib.trimRightB s 48)) := by
  refine PCall.of_below (by kernel_rfl) fun κ w vs hg hr him => ?_
  obtain ⟨vl⟩ := vs
  cases hr with
  | cons r1 hr =>
    cases hr with
    | cons r2 hr =>
      cases hr
      obtain ⟨e1, hl⟩ := rep_str_inv r1
      rw [e1, (rep_str_inv r2).1]
      refine (Tryd.strings_TrimRight_one ⟨s.toArray⟩ 48 (by decide) w (by simpa [ByteArray.size] using hl)).mono fun e w' ⟨e1, e2⟩ => ⟨_, e1, fun _ _ => .str (Lib.trimRightB s 48) ?_, by rw [e2]; exact Below.refl _ _⟩
      have : (Lib.trimRightB s 48).length ≤ s.length := by
        unfold Lib.trimRightB
        have := len_dropWhile (fun b => b == 48) s.reverse
        simp at this ⊢
        omega
      omega
theorem cut_c (s sep : List UInt8) (hs : s.length < 4294967281) : PCall Tryd.prog 49 [.str s, .str sep] (.tuple [.str (Lib.cut s sep).1, .str (Lib.cut s sep).2.1, .bool (Lib.cut s sep).2.2]) := by
  refine PCall.of_below (by kernel_rfl) fun κ w vs hg hr him => ?_
  obtain ⟨vl⟩ := vs
  cases hr with
  | cons r1 hr =>
    cases hr with
    | cons r2 hr =>
      cases hr
      rw [(rep_str_inv r1).1, (rep_str_inv r2).1]
      obtain ⟨_, m, hm⟩ := hg.ints _ _ maxLen_eq
      refine (Tryd.strings_Cut ⟨s.toArray⟩ ⟨sep.toArray⟩ m w (by simpa [ByteArray.size] using hs) hm).mono fun e w' ⟨e1, n, e2⟩ => ⟨_, e1, fun _ _ => .tuple rfl fun i d hd => ?_, by rw [e2]; exact below_drewN w n⟩
      have h1 : (Lib.cut s sep).1.length ≤ 9223372036854775807 := by
        unfold Lib.cut
        split <;> simp <;> omega
      have h2 : (Lib.cut s sep).2.1.length ≤ 9223372036854775807 := by
        unfold Lib.cut
        split <;> simp <;> omega
      match i, hd with
      | 0, hd => cases hd; exact .str _ h1
      | 1, hd => cases hd; exact .str _ h2
      | 2, hd => cases hd; exact .bool _
end Go.Proofs.YthpgepillaeldaaDoor.Zz
