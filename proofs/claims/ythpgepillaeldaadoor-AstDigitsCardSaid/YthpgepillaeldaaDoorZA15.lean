/- Contracts: digits with a point. -/
import Derived.Test.YthpgepillaeldaaDoorZN1
import Derived.Test.YthpgepillaeldaaDoorZZE
import Derived.Test.YthpgepillaeldaaDoorZZF
namespace Go.Proofs.YthpgepillaeldaaDoor.Zz
set_option linter.unusedVariables false
set_option linter.unusedSimpArgs false
def p27d : Plan := ⟨⟨[], [], [], [], [], []⟩, []⟩
/-- cupel/ast.Digits (1 parameters, 0 captured) -/
def s27d : Stm :=
  .seq (.ops [⟨.mov (.c (.str [])), (some 2), none, true⟩])
  (.seq (.ops [⟨.mov (.t 0), (some 7), none, true⟩,
     ⟨.qcall (.f 49) [(.t 7), (.c (.str [46]))], (some 8), none, false⟩,
     ⟨.mov (.t 8), (some 6), none, true⟩,
     ⟨.extract (.t 6) 0, (some 9), none, true⟩,
     ⟨.extract (.t 6) 1, (some 10), none, true⟩,
     ⟨.extract (.t 6) 2, (some 11), none, true⟩,
     ⟨.mov (.t 9), (some 3), none, true⟩,
     ⟨.mov (.t 10), (some 4), none, true⟩,
     ⟨.mov (.t 11), (some 5), none, true⟩])
  (.seq (.ops [⟨.mov (.t 3), (some 12), none, true⟩,
     ⟨.qcall (.f 50) [(.t 12), (.c (.str [48]))], (some 13), none, false⟩,
     ⟨.mov (.t 4), (some 14), none, true⟩,
     ⟨.qcall (.f 51) [(.t 14), (.c (.str [48]))], (some 15), none, false⟩,
     ⟨.mov (.t 13), (some 3), none, true⟩,
     ⟨.mov (.t 15), (some 4), none, true⟩])
  (.seq (.seq (.ops [⟨.mov (.t 3), (some 16), none, true⟩,
      ⟨.bin .eql (.t 16) (.c (.str [])), (some 17), none, true⟩])
   (.cond (.t 17)
    (.ops [⟨.mov (.c (.str [48])), (some 3), none, true⟩])
    (.skip)))
  (.seq (.seq (.ops [⟨.mov (.t 4), (some 18), none, true⟩,
      ⟨.bin .eql (.t 18) (.c (.str [])), (some 19), none, true⟩])
   (.cond (.t 19)
    (.ops [⟨.mov (.c (.str [48])), (some 4), none, true⟩])
    (.skip)))
  (.seq (.ops [⟨.mov (.t 3), (some 20), none, true⟩,
     ⟨.bin .add (.t 20) (.c (.str [46])), (some 21), none, true⟩,
     ⟨.mov (.t 4), (some 22), none, true⟩,
     ⟨.bin .add (.t 21) (.t 22), (some 23), none, true⟩,
     ⟨.mov (.t 23), (some 2), none, true⟩])
  (.ret))))))
theorem st27d : stmOf Tryd.prog 27 p27d = some (s27d, [.tmp 2], 24) := by kernel_rfl

def p30d : Plan := ⟨⟨[], [], [], [], [], []⟩, []⟩
/-- cupel/ast.Bits (1 parameters, 0 captured) -/
def s30d : Stm :=
  .seq (.ops [⟨.mov (.c (.int .i64 0)), (some 2), none, true⟩])
  (.seq (.ops [⟨.mov (.t 0), (some 11), none, true⟩,
     ⟨.qcall (.f 49) [(.t 11), (.c (.str [46]))], (some 12), none, false⟩,
     ⟨.mov (.t 12), (some 10), none, true⟩,
     ⟨.extract (.t 10) 0, (some 13), none, true⟩,
     ⟨.extract (.t 10) 1, (some 14), none, true⟩,
     ⟨.extract (.t 10) 2, (some 15), none, true⟩,
     ⟨.mov (.t 13), (some 3), none, true⟩,
     ⟨.mov (.t 14), (some 4), none, true⟩,
     ⟨.mov (.t 15), (some 5), none, true⟩])
  (.seq (.ops [⟨.mov (.c (.float .f64 0)), (some 6), none, true⟩,
     ⟨.mov (.c (.float .f64 4607182418800017408)), (some 7), none, true⟩])
  (.seq (.seq (.ops [⟨.mov (.t 3), (some 16), none, true⟩,
      ⟨.mov (.t 4), (some 17), none, true⟩,
      ⟨.bin .add (.t 16) (.t 17), (some 18), none, true⟩,
      ⟨.srange (.t 18), (some 19), none, false⟩])
   (.block 0 (.loop (.seq (.ops [⟨.snext (.t 19), (some 20), none, false⟩,
        ⟨.extract (.t 20) 0, (some 21), none, true⟩])
     (.seq (.cond (.t 21)
       (.skip)
       (.exit 0))
     (.block 1 (.seq (.ops [⟨.extract (.t 20) 2, (some 22), none, true⟩,
         ⟨.mov (.t 22), (some 9), none, true⟩])
      (.ops [⟨.mov (.t 6), (some 23), none, true⟩,
        ⟨.farith .mul (.t 23) (.c (.float .f64 4621819117588971520)), (some 24), none, false⟩,
        ⟨.mov (.t 9), (some 25), none, true⟩,
        ⟨.bin .sub (.t 25) (.c (.int .i32 48)), (some 26), none, true⟩,
        ⟨.conv .intFloat (.t 26), (some 27), none, true⟩,
        ⟨.farith .add (.t 24) (.t 27), (some 28), none, false⟩,
        ⟨.mov (.t 28), (some 6), none, true⟩]))))))))
  (.seq (.seq (.ops [⟨.mov (.t 4), (some 29), none, true⟩,
      ⟨.len .str (.t 29), (some 30), none, false⟩,
      ⟨.mov (.c (.int .i64 0)), (some 31), none, true⟩])
   (.block 2 (.loop (.seq (.ops [⟨.bin .lss (.t 31) (.t 30), (some 32), none, true⟩])
     (.seq (.cond (.t 32)
       (.skip)
       (.exit 2))
     (.seq (.block 3 (.ops [⟨.mov (.t 7), (some 33), none, true⟩,
         ⟨.farith .mul (.t 33) (.c (.float .f64 4621819117588971520)), (some 34), none, false⟩,
         ⟨.mov (.t 34), (some 7), none, true⟩]))
     (.ops [⟨.bin .add (.t 31) (.c (.int .i64 1)), (some 35), none, true⟩,
       ⟨.mov (.t 35), (some 31), none, true⟩])))))))
  (.seq (.ops [⟨.mov (.t 6), (some 36), none, true⟩,
     ⟨.mov (.t 7), (some 37), none, true⟩,
     ⟨.farith .quo (.t 36) (.t 37), (some 38), none, false⟩,
     ⟨.qcall (.f 52) [(.t 38)], (some 39), none, false⟩,
     ⟨.conv (.intInt .i64) (.t 39), (some 40), none, true⟩,
     ⟨.mov (.t 40), (some 2), none, true⟩])
  (.ret))))))
theorem st30d : stmOf Tryd.prog 30 p30d = some (s30d, [.tmp 2], 41) := by kernel_rfl

def p31d : Plan := ⟨⟨[], [], [], [], [], []⟩, []⟩
/-- cupel/ast.Float (1 parameters, 0 captured) -/
def s31d : Stm :=
  .seq (.ops [⟨.alloc [(.int .i64 0), (.int .i64 0), (.str []), (.int .i64 0), .nilsl], (some 2), none, false⟩])
  (.seq (.ops [⟨.mov (.t 0), (some 3), none, true⟩,
     ⟨.qcall (.f 27) [(.t 3)], (some 4), none, false⟩,
     ⟨.mov (.t 0), (some 5), none, true⟩,
     ⟨.qcall (.f 27) [(.t 5)], (some 6), none, false⟩,
     ⟨.qcall (.f 30) [(.t 6)], (some 7), none, false⟩,
     ⟨.build [(.int .i64 0), (.int .i64 0), (.str []), (.int .i64 0), .nilsl] [(0, 1, (.c (.int .i64 21))), (1, 1, (.c (.int .i64 2))), (2, 1, (.t 4)), (3, 1, (.t 7))], (some 8), none, true⟩,
     ⟨.store 5 (.t 2) (.t 8), none, none, false⟩])
  (.ret))
theorem st31d : stmOf Tryd.prog 31 p31d = some (s31d, [.cell 2 (some 5)], 9) := by kernel_rfl

def q49d : List D → Option D
  | [.str s, .str t] => if s.length < 4294967281 then some (.tuple [.str (Lib.cut s t).1, .str (Lib.cut s t).2.1, .bool (Lib.cut s t).2.2]) else none
  | _ => none
theorem q49d_ok (args : List D) (d : D) (h : q49d args = some d) : PCall Tryd.prog 49 args d := by
  unfold q49d at h
  split at h
  · split at h
    · cases h; exact cut_c _ _ (by assumption)
    · cases h
  · cases h

theorem trimL_c' (s t : List UInt8) (h : t = [48]) : PCall Tryd.prog 50 [.str s, .str t] (.str (Lib.trimLeftB s 48)) := by subst h; exact trimL_c s
theorem trimR_c' (s t : List UInt8) (h : t = [48]) : PCall Tryd.prog 51 [.str s, .str t] (.str (Lib.trimRightB s 48)) := by subst h; exact trimR_c s
def q50d : List D → Option D
  | [.str s, .str t] => if t = [48] then some (.str (Lib.trimLeftB s 48)) else none
  | _ => none
theorem q50d_ok (args : List D) (d : D) (h : q50d args = some d) : PCall Tryd.prog 50 args d := by
  unfold q50d at h
  split at h
  · split at h
    · cases h; exact trimL_c' _ _ (by assumption)
    · cases h
  · cases h

def q51d : List D → Option D
  | [.str s, .str t] => if t = [48] then some (.str (Lib.trimRightB s 48)) else none
  | _ => none
theorem q51d_ok (args : List D) (d : D) (h : q51d args = some d) : PCall Tryd.prog 51 args d := by
  unfold q51d at h
  split at h
  · split at h
    · cases h; exact trimR_c' _ _ (by assumption)
    · cases h
  · cases h

theorem ext52 : extOk Tryd.prog 52 "math.Float64bits" = true := by kernel_rfl
def tb49d : Tab := Tab.zero.addQ 49 q49d
theorem tb49d_q (g : FuncId) (args : List D) : tb49d.q g args = if g = 49 then q49d args else Tab.zero.q g args := rfl
theorem tb49d_a : tb49d.a = Tab.zero.a := rfl
theorem tb49d_c : tb49d.c = Tab.zero.c := rfl
theorem tb49d_ok : tb49d.ok Tryd.prog := Tab.addQ_ok (Tab.zero_ok _) q49d_ok
theorem tb49d_e : type_of% (And.intro @tb49d_q (And.intro @tb49d_a @tb49d_c)) := (And.intro @tb49d_q (And.intro @tb49d_a @tb49d_c))

def tb50d : Tab := tb49d.addQ 50 q50d
theorem tb50d_q (g : FuncId) (args : List D) : tb50d.q g args = if g = 50 then q50d args else tb49d.q g args := rfl
theorem tb50d_a : tb50d.a = tb49d.a := rfl
theorem tb50d_c : tb50d.c = tb49d.c := rfl
theorem tb50d_ok : tb50d.ok Tryd.prog := Tab.addQ_ok tb49d_ok q50d_ok
theorem tb50d_e : type_of% (And.intro (And.intro @tb50d_q (And.intro @tb50d_a @tb50d_c)) @tb49d_e) := (And.intro (And.intro @tb50d_q (And.intro @tb50d_a @tb50d_c)) @tb49d_e)

def tb51d : Tab := tb50d.addQ 51 q51d
theorem tb51d_q (g : FuncId) (args : List D) : tb51d.q g args = if g = 51 then q51d args else tb50d.q g args := rfl
theorem tb51d_a : tb51d.a = tb50d.a := rfl
theorem tb51d_c : tb51d.c = tb50d.c := rfl
theorem tb51d_ok : tb51d.ok Tryd.prog := Tab.addQ_ok tb50d_ok q51d_ok
theorem tb51d_e : type_of% (And.intro (And.intro @tb51d_q (And.intro @tb51d_a @tb51d_c)) @tb50d_e) := (And.intro (And.intro @tb51d_q (And.intro @tb51d_a @tb51d_c)) @tb50d_e)

def tb52d : Tab := tb51d.addQ 52 xBits
theorem tb52d_q (g : FuncId) (args : List D) : tb52d.q g args = if g = 52 then xBits args else tb51d.q g args := rfl
theorem tb52d_a : tb52d.a = tb51d.a := rfl
theorem tb52d_c : tb52d.c = tb51d.c := rfl
theorem tb52d_ok : tb52d.ok Tryd.prog := Tab.addX_ok tb51d_ok (xBits_ok ext52)
theorem tb52d_e : type_of% (And.intro (And.intro @tb52d_q (And.intro @tb52d_a @tb52d_c)) @tb51d_e) := (And.intro (And.intro @tb52d_q (And.intro @tb52d_a @tb52d_c)) @tb51d_e)

/-- Of no digits: a nought. -/
def orZero (l : List UInt8) : List UInt8 := if (l == []) = true then [48] else l
theorem orZero_t {l : List UInt8} (h : (l == []) = true) : orZero l = [48] := if_pos h
theorem orZero_f {l : List UInt8} (h : (l == []) = false) : orZero l = l := if_neg (by simp [h])
/-- Digits with a point in their one form. -/
def digF (s : List UInt8) : List UInt8 := orZero (Lib.trimLeftB (Lib.cut s [46]).1 48) ++ [46] ++ orZero (Lib.trimRightB (Lib.cut s [46]).2.1 48)
theorem trimL_len (l : List UInt8) (c : UInt8) : (Lib.trimLeftB l c).length ≤ l.length := len_dropWhile _ l
theorem trimR_len (l : List UInt8) (c : UInt8) : (Lib.trimRightB l c).length ≤ l.length := by
  have := len_dropWhile (fun b => b == c) l.reverse
  simp only [Lib.trimRightB, List.length_reverse] at this ⊢
  exact this
theorem cut_len (s t : List UInt8) : (Lib.cut s t).1.length ≤ s.length ∧ (Lib.cut s t).2.1.length ≤ s.length := by
  unfold Lib.cut
  split <;> simp <;> omega
theorem digits_c (s : List UInt8) (h : s.length < 4294967281) : PCall Tryd.prog 27 [.str s] (.str (digF s)) := by
  refine PCall.run tb52d_ok st27d (by simp) fun E => ?_
  have l1 := cut_len s [46]
  have l2 := trimL_len (Lib.cut s [46]).1 48
  have l3 := trimR_len (Lib.cut s [46]).2.1 48
  unfold digF
  cases c1d : (Lib.trimLeftB (Lib.cut s [46]).1 48 == []) <;> cases c2d : (Lib.trimRightB (Lib.cut s [46]).2.1 48 == []) <;>
    simp only [s27d, h, c1d, c2d, q49d, q50d, q51d, orZero_t, orZero_f, tb52d_e, i_callNe, keptAt, Int.natCast_nonneg, Nat.le_refl, Int.le_refl, List.take_succ_cons, List.take_zero, decide_true, decide_false, Bool.and_false, Bool.false_and, zz, zzN, zzF, fltEv, isArithF, ↓reduceIte, Nat.reduceEqDiff, Nat.reduceBEq, Int.reduceLT, Int.reduceLE, Int.reduceToNat, Int.reduceEq, Int.reduceAdd, Int.reduceSub, Int.reduceMul, Int.reduceNeg, Nat.reduceMul, Nat.reduceSub, Nat.reduceLeDiff, Nat.reduceLT, Int.reduceGT, Int.reduceGE, Int.reduceBEq, Int.reduceBNe, reduceCtorEq, Nat.reduceAdd, Ins.map, Fr.ev, argFr, argE, binEv, intEv, shEv, strEv, unEv, Fr.mark, evRes, tup, lenD, lookupD, loadD, partD, storeD, cellsD, cellOk, setAt, objNe, objSame, eqEv, readEv, lent_bool, lent_int, lent_float, lent_str, lent_agg, lent_tuple, lent_sl, lent_func, lent_iface, lent_nilif, lent_same, buildD, buildRows, rowsOf, elemsOf, normX, unnil, isNil, List.any_cons, List.any_nil, List.map_cons, List.map_nil, Bool.or_false, Bool.false_or, Bool.or_true, Bool.true_or, cond_true, cond_false] <;> (try simp only [List.length_cons, List.length_nil, List.length_append]) <;> (repeat' first | omega | trivial | refine And.intro ?_ ?_)

/-- What digits are as a whole number. -/
def valF (l : List UInt8) : Nat := l.foldl (fun n c => n * 10 + (c.toNat - 48)) 0
def isDig (c : UInt8) : Bool := decide (48 ≤ c.toNat) && decide (c.toNat ≤ 57)
theorem valF_snoc (l : List UInt8) (c : UInt8) : valF (l ++ [c]) = valF l * 10 + (c.toNat - 48) := by simp [valF]
theorem valF_lt (l : List UInt8) : l.all isDig = true → valF l < 10 ^ l.length := by
  intro h
  have key : ∀ (l : List UInt8) (n k : Nat), l.all isDig = true → n < 10 ^ k → l.foldl (fun n c => n * 10 + (c.toNat - 48)) n < 10 ^ (k + l.length) := by
    intro l
    induction l with
    | nil => intro n k _ h; exact h
    | cons c l ih =>
      intro n k ha hn
      simp only [List.all_cons, Bool.and_eq_true] at ha
      have hc : c.toNat - 48 ≤ 9 := by have := ha.1; simp [isDig] at this; omega
      have := ih (n * 10 + (c.toNat - 48)) (k + 1) ha.2 (by rw [Nat.pow_succ]; omega)
      rw [List.foldl_cons, List.length_cons, show k + (l.length + 1) = k + 1 + l.length by omega]
      exact this
  have := key l 0 0 h (by decide)
  rw [Nat.zero_add] at this
  exact this
theorem valF_53 {l : List UInt8} (h : l.all isDig = true) (hl : l.length ≤ 15) : valF l < 1000000000000000 := by
  have h1 := valF_lt l h
  have h2 := Nat.pow_le_pow_right (show 0 < 10 by decide) hl
  have h3 : (10 : Nat) ^ 15 = 1000000000000000 := by decide
  omega
/-- The bits of a quotient of two whole numbers. -/
def quoF (m n : Nat) : Nat := (floatBits .quo .f64 (fxN m) (fxN n)).getD 0
theorem quoF_eq {m n : Nat} (hm : m < 9007199254740992) (hn : n < 9007199254740992) (h0 : 0 < n) : floatBits .quo .f64 (fxN m) (fxN n) = some (quoF m n) ∧ quoF m n ≤ 2047 * 4503599627370496 := by
  obtain ⟨r, h1, h2⟩ := fx_div m n hm hn h0
  unfold quoF
  rw [h1]
  exact ⟨rfl, h2⟩
def bitsF (s : List UInt8) : Int := IntKind.i64.wrap (quoF (valF ((Lib.cut s [46]).1 ++ (Lib.cut s [46]).2.1)) (10 ^ (Lib.cut s [46]).2.1.length) : Nat)
theorem pow10_le {n : Nat} (h : n ≤ 15) : (10 : Nat) ^ n ≤ 1000000000000000 := by
  have h2 := Nat.pow_le_pow_right (show 0 < 10 by decide) h
  have h3 : (10 : Nat) ^ 15 = 1000000000000000 := by decide
  omega
theorem bits_c (s : List UInt8) (h : s.length < 4294967281) (hd : ((Lib.cut s [46]).1 ++ (Lib.cut s [46]).2.1).all isDig = true) (hl : ((Lib.cut s [46]).1 ++ (Lib.cut s [46]).2.1).length ≤ 15) : PCall Tryd.prog 30 [.str s] (.int .i64 (bitsF s)) := by
  refine PCall.run tb52d_ok st30d (by simp) fun E => ?_
  unfold bitsF
  simp only [s30d, h, q49d, tb52d_e, i_callNe, keptAt, Int.natCast_nonneg, Nat.le_refl, Int.le_refl, List.take_succ_cons, List.take_zero, decide_true, decide_false, Bool.and_false, Bool.false_and, zz, zzN, zzF, fltEv, isArithF, ↓reduceIte, Nat.reduceEqDiff, Nat.reduceBEq, Int.reduceLT, Int.reduceLE, Int.reduceToNat, Int.reduceEq, Int.reduceAdd, Int.reduceSub, Int.reduceMul, Int.reduceNeg, Nat.reduceMul, Nat.reduceSub, Nat.reduceLeDiff, Nat.reduceLT, Int.reduceGT, Int.reduceGE, Int.reduceBEq, Int.reduceBNe, reduceCtorEq, Nat.reduceAdd, Ins.map, Fr.ev, argFr, argE, binEv, intEv, shEv, strEv, unEv, Fr.mark, evRes, tup, lenD, lookupD, loadD, partD, storeD, cellsD, cellOk, setAt, objNe, objSame, eqEv, readEv, lent_bool, lent_int, lent_float, lent_str, lent_agg, lent_tuple, lent_sl, lent_func, lent_iface, lent_nilif, lent_same, buildD, buildRows, rowsOf, elemsOf, normX, unnil, isNil, List.any_cons, List.any_nil, List.map_cons, List.map_nil, Bool.or_false, Bool.false_or, Bool.or_true, Bool.true_or, cond_true, cond_false]
  generalize (Lib.cut s [46]).1 = A at *
  generalize (Lib.cut s [46]).2.1 = B at *
  rw [List.length_append] at hl
  refine ⟨by omega, ?_⟩
  intro id
  simp only [i_srange, i_callNe, keptAt, Int.natCast_nonneg, Nat.le_refl, Int.le_refl, List.take_succ_cons, List.take_zero, decide_true, decide_false, Bool.and_false, Bool.false_and, zz, zzN, zzF, fltEv, isArithF, ↓reduceIte, Nat.reduceEqDiff, Nat.reduceBEq, Int.reduceLT, Int.reduceLE, Int.reduceToNat, Int.reduceEq, Int.reduceAdd, Int.reduceSub, Int.reduceMul, Int.reduceNeg, Nat.reduceMul, Nat.reduceSub, Nat.reduceLeDiff, Nat.reduceLT, Int.reduceGT, Int.reduceGE, Int.reduceBEq, Int.reduceBNe, reduceCtorEq, Nat.reduceAdd, Ins.map, Fr.ev, argFr, argE, binEv, intEv, shEv, strEv, unEv, Fr.mark, evRes, tup, lenD, lookupD, loadD, partD, storeD, cellsD, cellOk, setAt, objNe, objSame, eqEv, readEv, lent_bool, lent_int, lent_float, lent_str, lent_agg, lent_tuple, lent_sl, lent_func, lent_iface, lent_nilif, lent_same, buildD, buildRows, rowsOf, elemsOf, normX, unnil, isNil, List.any_cons, List.any_nil, List.map_cons, List.map_nil, Bool.or_false, Bool.false_or, Bool.or_true, Bool.true_or, cond_true, cond_false]
  have hlt : ∀ i c, (A ++ B)[i]? = some c → isDig c = true := fun i c hc => by
    rw [List.all_eq_true] at hd
    exact hd c (List.mem_of_getElem? hc)
  have v15 := valF_53 hd (by rw [List.length_append]; omega)
  have vle : ∀ i, valF ((A ++ B).take i) < 1000000000000000 := fun i => valF_53 (by
    rw [List.all_eq_true] at hd ⊢
    exact fun x hx => hd x (List.mem_of_mem_take hx)) (by rw [List.length_take, List.length_append]; omega)
  generalize hS : A ++ B = S at *
  have hSl : S.length = A.length + B.length := by rw [← hS, List.length_append]
  refine run_loop (X := Nat) (fun i => [(4, .str B), (6, .float .f64 (fxN (valF (S.take i)))), (7, .float .f64 (fxN 1)), (19, .iter id)]) (fun i => AHeap.emp.set id (.siter S i)) (fun i => S.length - i) (fun i => i ≤ S.length) 0 (Nat.zero_le _) ?_ (AHeap.sub_refl _) ?_
  · have v0 : fxN (valF []) = 0 := fx_nought
    simp only [fx_one, v0, List.take_zero, i_callNe, keptAt, Int.natCast_nonneg, Nat.le_refl, Int.le_refl, List.take_succ_cons, List.take_zero, decide_true, decide_false, Bool.and_false, Bool.false_and, zz, zzN, zzF, fltEv, isArithF, ↓reduceIte, Nat.reduceEqDiff, Nat.reduceBEq, Int.reduceLT, Int.reduceLE, Int.reduceToNat, Int.reduceEq, Int.reduceAdd, Int.reduceSub, Int.reduceMul, Int.reduceNeg, Nat.reduceMul, Nat.reduceSub, Nat.reduceLeDiff, Nat.reduceLT, Int.reduceGT, Int.reduceGE, Int.reduceBEq, Int.reduceBNe, reduceCtorEq, Nat.reduceAdd, Ins.map, Fr.ev, argFr, argE, binEv, intEv, shEv, strEv, unEv, Fr.mark, evRes, tup, lenD, lookupD, loadD, partD, storeD, cellsD, cellOk, setAt, objNe, objSame, eqEv, readEv, lent_bool, lent_int, lent_float, lent_str, lent_agg, lent_tuple, lent_sl, lent_func, lent_iface, lent_nilif, lent_same, buildD, buildRows, rowsOf, elemsOf, normX, unnil, isNil, List.any_cons, List.any_nil, List.map_cons, List.map_nil, Bool.or_false, Bool.false_or, Bool.or_true, Bool.true_or, cond_true, cond_false]
  · intro i Q hi hQ
    by_cases c : i < S.length
    · obtain ⟨x, hx⟩ : ∃ x, S[i]? = some x := ⟨_, List.getElem?_eq_getElem c⟩
      have hxd := hlt i x hx
      have hx1 : 48 ≤ x.toNat ∧ x.toNat ≤ 57 := by simpa [isDig] using hxd
      have e1 := decode_one hx (UInt8.lt_iff_toNat_lt.2 (Nat.lt_of_le_of_lt hx1.2 (by decide)))
      have e2 : IntKind.i32.wrap ((x.toNat : Int) - 48) = ((x.toNat - 48 : Nat) : Int) := by
        simp [IntKind.wrap, IntKind.bits, IntKind.signed]
        split <;> omega
      have tk : S.take (i + 1) = S.take i ++ [x] := by
        rw [List.take_add_one, hx]; rfl
      have hv : valF (S.take i) * 10 + (x.toNat - 48) = valF (S.take (i + 1)) := by rw [tk, valF_snoc]
      have v1 := vle (i + 1)
      have m1 := fx_mul (valF (S.take i)) 10 (by omega) (by decide) (by omega)
      rw [fx_ten] at m1
      have m2 := fx_add (valF (S.take i) * 10) (x.toNat - 48) (by omega) (by omega) (by omega)
      rw [hv] at m2
      have c1d : (i < S.length) = True := eq_true c
      have c2d : (S.length ≤ i) = False := eq_false (by omega)
      simp only [i_snext, snx_siter, c1d, c2d, e1, e2, fx_int, m1, m2, true_implies, false_implies, and_true, tb52d_e, i_callNe, keptAt, Int.natCast_nonneg, Nat.le_refl, Int.le_refl, List.take_succ_cons, List.take_zero, decide_true, decide_false, Bool.and_false, Bool.false_and, zz, zzN, zzF, fltEv, isArithF, ↓reduceIte, Nat.reduceEqDiff, Nat.reduceBEq, Int.reduceLT, Int.reduceLE, Int.reduceToNat, Int.reduceEq, Int.reduceAdd, Int.reduceSub, Int.reduceMul, Int.reduceNeg, Nat.reduceMul, Nat.reduceSub, Nat.reduceLeDiff, Nat.reduceLT, Int.reduceGT, Int.reduceGE, Int.reduceBEq, Int.reduceBNe, reduceCtorEq, Nat.reduceAdd, Ins.map, Fr.ev, argFr, argE, binEv, intEv, shEv, strEv, unEv, Fr.mark, evRes, tup, lenD, lookupD, loadD, partD, storeD, cellsD, cellOk, setAt, objNe, objSame, eqEv, readEv, lent_bool, lent_int, lent_float, lent_str, lent_agg, lent_tuple, lent_sl, lent_func, lent_iface, lent_nilif, lent_same, buildD, buildRows, rowsOf, elemsOf, normX, unnil, isNil, List.any_cons, List.any_nil, List.map_cons, List.map_nil, Bool.or_false, Bool.false_or, Bool.or_true, Bool.true_or, cond_true, cond_false]
      refine hQ (i + 1) _ _ (by omega) (by simp only [i_callNe, keptAt, Int.natCast_nonneg, Nat.le_refl, Int.le_refl, List.take_succ_cons, List.take_zero, decide_true, decide_false, Bool.and_false, Bool.false_and, zz, zzN, zzF, fltEv, isArithF, ↓reduceIte, Nat.reduceEqDiff, Nat.reduceBEq, Int.reduceLT, Int.reduceLE, Int.reduceToNat, Int.reduceEq, Int.reduceAdd, Int.reduceSub, Int.reduceMul, Int.reduceNeg, Nat.reduceMul, Nat.reduceSub, Nat.reduceLeDiff, Nat.reduceLT, Int.reduceGT, Int.reduceGE, Int.reduceBEq, Int.reduceBNe, reduceCtorEq, Nat.reduceAdd, Ins.map, Fr.ev, argFr, argE, binEv, intEv, shEv, strEv, unEv, Fr.mark, evRes, tup, lenD, lookupD, loadD, partD, storeD, cellsD, cellOk, setAt, objNe, objSame, eqEv, readEv, lent_bool, lent_int, lent_float, lent_str, lent_agg, lent_tuple, lent_sl, lent_func, lent_iface, lent_nilif, lent_same, buildD, buildRows, rowsOf, elemsOf, normX, unnil, isNil, List.any_cons, List.any_nil, List.map_cons, List.map_nil, Bool.or_false, Bool.false_or, Bool.or_true, Bool.true_or, cond_true, cond_false]) ?_ (by omega)
      exact AHeap.sub_X (by repeat' first | with_reducible exact AHeap.subX_refl | with_reducible exact AHeap.subX_emp | refine AHeap.subX_l (by simp []) ?_ | refine AHeap.subX_r (by simp []) ?_)
    · have e0 : i = S.length := by omega
      subst e0
      have c1d : (S.length < S.length) = False := eq_false (by omega)
      have hlB : B.length ≤ 15 := by omega
      have tk : S.take S.length = S := List.take_length
      simp only [i_snext, snx_siter, c1d, tk, Nat.le_refl, true_implies, false_implies, true_and, tb52d_e, i_callNe, keptAt, Int.natCast_nonneg, Nat.le_refl, Int.le_refl, List.take_succ_cons, List.take_zero, decide_true, decide_false, Bool.and_false, Bool.false_and, zz, zzN, zzF, fltEv, isArithF, ↓reduceIte, Nat.reduceEqDiff, Nat.reduceBEq, Int.reduceLT, Int.reduceLE, Int.reduceToNat, Int.reduceEq, Int.reduceAdd, Int.reduceSub, Int.reduceMul, Int.reduceNeg, Nat.reduceMul, Nat.reduceSub, Nat.reduceLeDiff, Nat.reduceLT, Int.reduceGT, Int.reduceGE, Int.reduceBEq, Int.reduceBNe, reduceCtorEq, Nat.reduceAdd, Ins.map, Fr.ev, argFr, argE, binEv, intEv, shEv, strEv, unEv, Fr.mark, evRes, tup, lenD, lookupD, loadD, partD, storeD, cellsD, cellOk, setAt, objNe, objSame, eqEv, readEv, lent_bool, lent_int, lent_float, lent_str, lent_agg, lent_tuple, lent_sl, lent_func, lent_iface, lent_nilif, lent_same, buildD, buildRows, rowsOf, elemsOf, normX, unnil, isNil, List.any_cons, List.any_nil, List.map_cons, List.map_nil, Bool.or_false, Bool.false_or, Bool.or_true, Bool.true_or, cond_true, cond_false]
      intro _
      refine run_loop (X := Nat) (fun i => [(6, .float .f64 (fxN (valF S))), (7, .float .f64 (fxN (10 ^ i))), (30, .int .i64 B.length), (31, .int .i64 i)]) (fun i => .emp) (fun i => B.length - i) (fun i => i ≤ B.length) 0 (Nat.zero_le _) ?_ sub_emp ?_
      · simp only [Nat.pow_zero, i_callNe, keptAt, Int.natCast_nonneg, Nat.le_refl, Int.le_refl, List.take_succ_cons, List.take_zero, decide_true, decide_false, Bool.and_false, Bool.false_and, zz, zzN, zzF, fltEv, isArithF, ↓reduceIte, Nat.reduceEqDiff, Nat.reduceBEq, Int.reduceLT, Int.reduceLE, Int.reduceToNat, Int.reduceEq, Int.reduceAdd, Int.reduceSub, Int.reduceMul, Int.reduceNeg, Nat.reduceMul, Nat.reduceSub, Nat.reduceLeDiff, Nat.reduceLT, Int.reduceGT, Int.reduceGE, Int.reduceBEq, Int.reduceBNe, reduceCtorEq, Nat.reduceAdd, Ins.map, Fr.ev, argFr, argE, binEv, intEv, shEv, strEv, unEv, Fr.mark, evRes, tup, lenD, lookupD, loadD, partD, storeD, cellsD, cellOk, setAt, objNe, objSame, eqEv, readEv, lent_bool, lent_int, lent_float, lent_str, lent_agg, lent_tuple, lent_sl, lent_func, lent_iface, lent_nilif, lent_same, buildD, buildRows, rowsOf, elemsOf, normX, unnil, isNil, List.any_cons, List.any_nil, List.map_cons, List.map_nil, Bool.or_false, Bool.false_or, Bool.or_true, Bool.true_or, cond_true, cond_false]
      · intro i Q hi hQ
        by_cases c : i < B.length
        · have g : ((i : Int) < (B.length : Int)) = True := eq_true (by omega)
          have p1d := pow10_le (n := i) (by omega)
          have p2d := pow10_le (n := i + 1) (by omega)
          rw [Nat.pow_succ] at p2d
          have m1 := fx_mul (10 ^ i) 10 (by omega) (by decide) (by omega)
          rw [fx_ten, ← Nat.pow_succ] at m1
          have wi : IntKind.i64.wrap ((i : Int) + 1) = ((i + 1 : Nat) : Int) := wrap_succ (by omega)
          simp only [g, m1, wi, tb52d_e, i_callNe, keptAt, Int.natCast_nonneg, Nat.le_refl, Int.le_refl, List.take_succ_cons, List.take_zero, decide_true, decide_false, Bool.and_false, Bool.false_and, zz, zzN, zzF, fltEv, isArithF, ↓reduceIte, Nat.reduceEqDiff, Nat.reduceBEq, Int.reduceLT, Int.reduceLE, Int.reduceToNat, Int.reduceEq, Int.reduceAdd, Int.reduceSub, Int.reduceMul, Int.reduceNeg, Nat.reduceMul, Nat.reduceSub, Nat.reduceLeDiff, Nat.reduceLT, Int.reduceGT, Int.reduceGE, Int.reduceBEq, Int.reduceBNe, reduceCtorEq, Nat.reduceAdd, Ins.map, Fr.ev, argFr, argE, binEv, intEv, shEv, strEv, unEv, Fr.mark, evRes, tup, lenD, lookupD, loadD, partD, storeD, cellsD, cellOk, setAt, objNe, objSame, eqEv, readEv, lent_bool, lent_int, lent_float, lent_str, lent_agg, lent_tuple, lent_sl, lent_func, lent_iface, lent_nilif, lent_same, buildD, buildRows, rowsOf, elemsOf, normX, unnil, isNil, List.any_cons, List.any_nil, List.map_cons, List.map_nil, Bool.or_false, Bool.false_or, Bool.or_true, Bool.true_or, cond_true, cond_false]
          exact hQ (i + 1) _ _ (by omega) (by simp only [i_callNe, keptAt, Int.natCast_nonneg, Nat.le_refl, Int.le_refl, List.take_succ_cons, List.take_zero, decide_true, decide_false, Bool.and_false, Bool.false_and, zz, zzN, zzF, fltEv, isArithF, ↓reduceIte, Nat.reduceEqDiff, Nat.reduceBEq, Int.reduceLT, Int.reduceLE, Int.reduceToNat, Int.reduceEq, Int.reduceAdd, Int.reduceSub, Int.reduceMul, Int.reduceNeg, Nat.reduceMul, Nat.reduceSub, Nat.reduceLeDiff, Nat.reduceLT, Int.reduceGT, Int.reduceGE, Int.reduceBEq, Int.reduceBNe, reduceCtorEq, Nat.reduceAdd, Ins.map, Fr.ev, argFr, argE, binEv, intEv, shEv, strEv, unEv, Fr.mark, evRes, tup, lenD, lookupD, loadD, partD, storeD, cellsD, cellOk, setAt, objNe, objSame, eqEv, readEv, lent_bool, lent_int, lent_float, lent_str, lent_agg, lent_tuple, lent_sl, lent_func, lent_iface, lent_nilif, lent_same, buildD, buildRows, rowsOf, elemsOf, normX, unnil, isNil, List.any_cons, List.any_nil, List.map_cons, List.map_nil, Bool.or_false, Bool.false_or, Bool.or_true, Bool.true_or, cond_true, cond_false]) sub_emp (by omega)
        · have e0 : i = B.length := by omega
          subst e0
          have g : ((B.length : Int) < (B.length : Int)) = False := eq_false (by omega)
          obtain ⟨m1, m2⟩ := quoF_eq (m := valF S) (n := 10 ^ B.length) (by omega) (by have := pow10_le hlB; omega) (Nat.pow_pos (by decide))
          simp only [g, m1, xBits, tb52d_e, i_callNe, keptAt, Int.natCast_nonneg, Nat.le_refl, Int.le_refl, List.take_succ_cons, List.take_zero, decide_true, decide_false, Bool.and_false, Bool.false_and, zz, zzN, zzF, fltEv, isArithF, ↓reduceIte, Nat.reduceEqDiff, Nat.reduceBEq, Int.reduceLT, Int.reduceLE, Int.reduceToNat, Int.reduceEq, Int.reduceAdd, Int.reduceSub, Int.reduceMul, Int.reduceNeg, Nat.reduceMul, Nat.reduceSub, Nat.reduceLeDiff, Nat.reduceLT, Int.reduceGT, Int.reduceGE, Int.reduceBEq, Int.reduceBNe, reduceCtorEq, Nat.reduceAdd, Ins.map, Fr.ev, argFr, argE, binEv, intEv, shEv, strEv, unEv, Fr.mark, evRes, tup, lenD, lookupD, loadD, partD, storeD, cellsD, cellOk, setAt, objNe, objSame, eqEv, readEv, lent_bool, lent_int, lent_float, lent_str, lent_agg, lent_tuple, lent_sl, lent_func, lent_iface, lent_nilif, lent_same, buildD, buildRows, rowsOf, elemsOf, normX, unnil, isNil, List.any_cons, List.any_nil, List.map_cons, List.map_nil, Bool.or_false, Bool.false_or, Bool.or_true, Bool.true_or, cond_true, cond_false]
def q27d : List D → Option D
  | [.str s] => if s.length < 4294967281 then some (.str (digF s)) else none
  | _ => none
theorem q27d_ok (args : List D) (d : D) (h : q27d args = some d) : PCall Tryd.prog 27 args d := by
  unfold q27d at h
  split at h
  · split at h
    · cases h; exact digits_c _ (by assumption)
    · cases h
  · cases h

def q30d : List D → Option D
  | [.str s] => if s.length < 4294967281 ∧ ((Lib.cut s [46]).1 ++ (Lib.cut s [46]).2.1).all isDig = true ∧ ((Lib.cut s [46]).1 ++ (Lib.cut s [46]).2.1).length ≤ 15 then some (.int .i64 (bitsF s)) else none
  | _ => none
theorem q30d_ok (args : List D) (d : D) (h : q30d args = some d) : PCall Tryd.prog 30 args d := by
  unfold q30d at h
  split at h
  · split at h
    · cases h; exact bits_c _ (by rename_i h; exact h.1) (by rename_i h; exact h.2.1) (by rename_i h; exact h.2.2)
    · cases h
  · cases h

def tb27d : Tab := tb52d.addQ 27 q27d
theorem tb27d_q (g : FuncId) (args : List D) : tb27d.q g args = if g = 27 then q27d args else tb52d.q g args := rfl
theorem tb27d_a : tb27d.a = tb52d.a := rfl
theorem tb27d_c : tb27d.c = tb52d.c := rfl
theorem tb27d_ok : tb27d.ok Tryd.prog := Tab.addQ_ok tb52d_ok q27d_ok
theorem tb27d_e : type_of% (And.intro (And.intro @tb27d_q (And.intro @tb27d_a @tb27d_c)) @tb52d_e) := (And.intro (And.intro @tb27d_q (And.intro @tb27d_a @tb27d_c)) @tb52d_e)

def tb30d : Tab := tb27d.addQ 30 q30d
theorem tb30d_q (g : FuncId) (args : List D) : tb30d.q g args = if g = 30 then q30d args else tb27d.q g args := rfl
theorem tb30d_a : tb30d.a = tb27d.a := rfl
theorem tb30d_c : tb30d.c = tb27d.c := rfl
theorem tb30d_ok : tb30d.ok Tryd.prog := Tab.addQ_ok tb27d_ok q30d_ok
theorem tb30d_e : type_of% (And.intro (And.intro @tb30d_q (And.intro @tb30d_a @tb30d_c)) @tb27d_e) := (And.intro (And.intro @tb30d_q (And.intro @tb30d_a @tb30d_c)) @tb27d_e)

theorem index_dot : ∀ (A B : List UInt8), A.all isDig = true → Lib.index (A ++ ([46] ++ B)) [46] = A.length
  | [], B, _ => by simp [Lib.index]
  | a :: A, B, h => by
    simp only [List.all_cons, Bool.and_eq_true] at h
    have ih := index_dot A B h.2
    have h1 : (46 == a) = false := by
      have := h.1
      simp only [isDig, Bool.and_eq_true, decide_eq_true_eq] at this
      simp only [beq_eq_false_iff_ne]
      intro e
      rw [← e] at this
      exact absurd this.1 (by decide)
    rw [List.cons_append, Lib.index, ih]
    have h2 : (([46] : List UInt8).isPrefixOf (a :: (A ++ ([46] ++ B)))) = false := by simp [List.isPrefixOf, h1]
    have h3 : (((A.length : Int) == -1) = false) := by simp only [beq_eq_false_iff_ne]; omega
    rw [h2, h3]
    simp
theorem cut_dot (A B : List UInt8) (h : A.all isDig = true) : Lib.cut (A ++ [46] ++ B) [46] = (A, B, true) := by
  unfold Lib.cut
  rw [List.append_assoc, index_dot A B h, if_pos (by omega), Int.toNat_natCast]
  rw [List.take_left, ← List.append_assoc, List.drop_left' (by simp)]
theorem orZero_dig {l : List UInt8} (h : l.all isDig = true) : (orZero l).all isDig = true := by
  unfold orZero
  split
  · decide
  · exact h
theorem orZero_len (l : List UInt8) (n : Nat) (h : l.length ≤ n) (h1 : 1 ≤ n) : (orZero l).length ≤ n := by
  unfold orZero
  split
  · exact h1
  · exact h
theorem dropWhile_all (p q : UInt8 → Bool) (l : List UInt8) (h : l.all q = true) : (l.dropWhile p).all q = true := by
  rw [List.all_eq_true] at h ⊢
  exact fun x hx => h x ((List.dropWhile_sublist p).subset hx)
theorem trimL_dig {l : List UInt8} (c : UInt8) (h : l.all isDig = true) : (Lib.trimLeftB l c).all isDig = true := dropWhile_all _ _ _ h
theorem trimR_dig {l : List UInt8} (c : UInt8) (h : l.all isDig = true) : (Lib.trimRightB l c).all isDig = true := by
  unfold Lib.trimRightB
  rw [List.all_reverse]
  exact dropWhile_all _ _ _ (by rw [List.all_reverse]; exact h)
theorem digF_dot (A B : List UInt8) (h : A.all isDig = true) : digF (A ++ [46] ++ B) = orZero (Lib.trimLeftB A 48) ++ [46] ++ orZero (Lib.trimRightB B 48) := by
  unfold digF
  rw [cut_dot A B h]
/-- Texts of digits with a point in them. -/
structure Dotted (s A B : List UInt8) : Prop where
  eq : s = A ++ [46] ++ B
  a : A.all isDig = true
  b : B.all isDig = true
  a1 : 1 ≤ A.length
  b1 : 1 ≤ B.length
  len : A.length + B.length ≤ 15
theorem Dotted.dig {s A B : List UInt8} (h : Dotted s A B) : Dotted (digF s) (orZero (Lib.trimLeftB A 48)) (orZero (Lib.trimRightB B 48)) := by
  obtain ⟨rfl, a, b, a1, b1, l⟩ := h
  have l1 := orZero_len _ A.length (trimL_len A 48) a1
  have l2 := orZero_len _ B.length (trimR_len B 48) b1
  refine ⟨digF_dot A B a, orZero_dig (trimL_dig 48 a), orZero_dig (trimR_dig 48 b), ?_, ?_, by omega⟩
  · unfold orZero; split
    · exact Nat.le_refl _
    · rename_i h; cases e : Lib.trimLeftB A 48 with
      | nil => rw [e] at h; exact absurd rfl h
      | cons x l => simp
  · unfold orZero; split
    · exact Nat.le_refl _
    · rename_i h; cases e : Lib.trimRightB B 48 with
      | nil => rw [e] at h; exact absurd rfl h
      | cons x l => simp
theorem Dotted.onDig {s A B : List UInt8} (h : Dotted s A B) : q27d [.str s] = some (.str (digF s)) := by
  have : s.length < 4294967281 := by rw [h.eq]; simp only [List.length_append, List.length_cons, List.length_nil]; have := h.len; omega
  simp only [q27d]
  rw [if_pos this]
theorem Dotted.onBits {s A B : List UInt8} (h : Dotted s A B) : q30d [.str s] = some (.int .i64 (bitsF s)) := by
  have h1 : s.length < 4294967281 := by rw [h.eq]; simp only [List.length_append, List.length_cons, List.length_nil]; have := h.len; omega
  simp only [q30d]
  rw [if_pos]
  rw [h.eq] at h1 ⊢
  rw [cut_dot A B h.a]
  exact ⟨h1, by rw [List.all_append, h.a, h.b]; rfl, by rw [List.length_append]; exact h.len⟩
theorem Dotted.bits {s A B : List UInt8} (h : Dotted s A B) : bitsF s = IntKind.i64.wrap (quoF (valF (A ++ B)) (10 ^ B.length) : Nat) := by
  unfold bitsF
  rw [h.eq, cut_dot A B h.a]
theorem float_c (s A B : List UInt8) (h : Dotted s A B) : PCall Tryd.prog 31 [.str s] (.agg [.int .i64 21, .int .i64 2, .str (digF s), .int .i64 (bitsF (digF s)), .sl []]) := by
  refine PCall.run tb30d_ok st31d (by simp) fun E => ?_
  have h1 := h.onDig
  have h2 := h.dig.onBits
  simp only [s31d, h1, h2, tb30d_e, i_callNe, keptAt, Int.natCast_nonneg, Nat.le_refl, Int.le_refl, List.take_succ_cons, List.take_zero, decide_true, decide_false, Bool.and_false, Bool.false_and, zz, zzN, zzF, fltEv, isArithF, ↓reduceIte, Nat.reduceEqDiff, Nat.reduceBEq, Int.reduceLT, Int.reduceLE, Int.reduceToNat, Int.reduceEq, Int.reduceAdd, Int.reduceSub, Int.reduceMul, Int.reduceNeg, Nat.reduceMul, Nat.reduceSub, Nat.reduceLeDiff, Nat.reduceLT, Int.reduceGT, Int.reduceGE, Int.reduceBEq, Int.reduceBNe, reduceCtorEq, Nat.reduceAdd, Ins.map, Fr.ev, argFr, argE, binEv, intEv, shEv, strEv, unEv, Fr.mark, evRes, tup, lenD, lookupD, loadD, partD, storeD, cellsD, cellOk, setAt, objNe, objSame, eqEv, readEv, lent_bool, lent_int, lent_float, lent_str, lent_agg, lent_tuple, lent_sl, lent_func, lent_iface, lent_nilif, lent_same, buildD, buildRows, rowsOf, elemsOf, normX, unnil, isNil, List.any_cons, List.any_nil, List.map_cons, List.map_nil, Bool.or_false, Bool.false_or, Bool.or_true, Bool.true_or, cond_true, cond_false]
end Go.Proofs.YthpgepillaeldaaDoor.Zz
