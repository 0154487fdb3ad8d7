/- Contracts: words of 64 bits. -/
import Derived.Test.YtiilnakenlegmaaProg
import Derived.Test.YtiilnakenlegmaaZY
import Derived.KernelRfl
namespace Go.Proofs.Ytiilnakenlegmaa.Zz
set_option linter.unusedVariables false
set_option linter.unusedSimpArgs false
set_option maxRecDepth 20000
def p25 : Plan := ⟨⟨[], [], [], [], [], []⟩, []⟩
/-- math/bits.RotateLeft64 (2 parameters, 0 captured) -/
def s25 : Stm :=
  .seq (.ops [⟨.mov (.c (.int .u64 0)), (some 4), none, true⟩])
  (.seq (.ops [⟨.mov (.t 1), (some 6), none, true⟩,
     ⟨.conv (.intInt .u64) (.t 6), (some 7), none, true⟩,
     ⟨.bin .and (.t 7) (.c (.int .u64 63)), (some 8), none, true⟩,
     ⟨.mov (.t 8), (some 5), none, true⟩])
  (.seq (.ops [⟨.mov (.t 0), (some 9), none, true⟩,
     ⟨.mov (.t 5), (some 10), none, true⟩,
     ⟨.bin .shl (.t 9) (.t 10), (some 11), none, true⟩,
     ⟨.mov (.t 0), (some 12), none, true⟩,
     ⟨.mov (.t 5), (some 13), none, true⟩,
     ⟨.bin .sub (.c (.int .u64 64)) (.t 13), (some 14), none, true⟩,
     ⟨.bin .shr (.t 12) (.t 14), (some 15), none, true⟩,
     ⟨.bin .or (.t 11) (.t 15), (some 16), none, true⟩,
     ⟨.mov (.t 16), (some 4), none, true⟩])
  (.ret)))
theorem st25 : stmOf Try.prog 25 p25 = some (s25, [.tmp 4], 17) := by kernel_rfl

def p29 : Plan := ⟨⟨[], [], [], [], [], []⟩, []⟩
/-- cupel/cupelref01.turned (2 parameters, 0 captured) -/
def s29 : Stm :=
  .seq (.ops [⟨.mov (.c (.int .u64 0)), (some 4), none, true⟩])
  (.seq (.seq (.ops [⟨.mov (.t 1), (some 5), none, true⟩,
      ⟨.bin .eql (.t 5) (.c (.int .i64 0)), (some 6), none, true⟩])
   (.cond (.t 6)
    (.seq (.ops [⟨.mov (.t 0), (some 7), none, true⟩,
        ⟨.mov (.t 7), (some 4), none, true⟩])
     (.ret))
    (.skip)))
  (.seq (.ops [⟨.mov (.t 0), (some 8), none, true⟩,
     ⟨.mov (.t 1), (some 9), none, true⟩,
     ⟨.conv (.intInt .u64) (.t 9), (some 10), none, true⟩,
     ⟨.bin .shl (.t 8) (.t 10), (some 11), none, true⟩,
     ⟨.mov (.t 0), (some 12), none, true⟩,
     ⟨.mov (.t 1), (some 13), none, true⟩,
     ⟨.bin .sub (.c (.int .i64 64)) (.t 13), (some 14), none, true⟩,
     ⟨.conv (.intInt .u64) (.t 14), (some 15), none, true⟩,
     ⟨.bin .shr (.t 12) (.t 15), (some 16), none, true⟩,
     ⟨.bin .or (.t 11) (.t 16), (some 17), none, true⟩,
     ⟨.mov (.t 17), (some 4), none, true⟩])
  (.ret)))
theorem st29 : stmOf Try.prog 29 p29 = some (s29, [.tmp 4], 18) := by kernel_rfl

abbrev W64 := BitVec 64
def ofW (a : W64) : Int := (a.toNat : Int)
theorem wrap_toNat (a : W64) : IntKind.u64.wrap (a.toNat : Int) = ofW a := wrap_u64 (by omega) (by have := a.isLt; omega)
theorem ofInt_ofW (a : W64) : BitVec.ofInt IntKind.u64.bits (ofW a) = a := by
  apply BitVec.eq_of_toNat_eq
  have h := a.isLt
  show (BitVec.ofInt 64 (a.toNat : Int)).toNat = a.toNat
  simp
theorem w_xor (a b : W64) : IntKind.u64.wrap ((BitVec.ofInt IntKind.u64.bits (ofW a) ^^^ BitVec.ofInt IntKind.u64.bits (ofW b)).toNat : Int) = ofW (a ^^^ b) := by
  rw [ofInt_ofW, ofInt_ofW]; exact wrap_toNat _
theorem w_and (a b : W64) : IntKind.u64.wrap ((BitVec.ofInt IntKind.u64.bits (ofW a) &&& BitVec.ofInt IntKind.u64.bits (ofW b)).toNat : Int) = ofW (a &&& b) := by
  rw [ofInt_ofW, ofInt_ofW]; exact wrap_toNat _
theorem w_or (a b : W64) : IntKind.u64.wrap ((BitVec.ofInt IntKind.u64.bits (ofW a) ||| BitVec.ofInt IntKind.u64.bits (ofW b)).toNat : Int) = ofW (a ||| b) := by
  rw [ofInt_ofW, ofInt_ofW]; exact wrap_toNat _
theorem w_not (a : W64) : IntKind.u64.wrap ((BitVec.ofInt IntKind.u64.bits (if IntKind.u64.signed then -1 else IntKind.u64.max) ^^^ BitVec.ofInt IntKind.u64.bits (ofW a)).toNat : Int) = ofW (~~~a) := by
  have h1 : BitVec.ofInt IntKind.u64.bits (ofW a) = a := ofInt_ofW a
  have h2 : BitVec.ofInt IntKind.u64.bits (if IntKind.u64.signed then -1 else IntKind.u64.max) = BitVec.allOnes 64 := by
    show BitVec.ofInt 64 18446744073709551615 = BitVec.allOnes 64
    decide
  rw [h1, h2]
  show IntKind.u64.wrap (((BitVec.allOnes 64 ^^^ a : BitVec 64)).toNat : Int) = _
  rw [BitVec.allOnes_xor]; exact wrap_toNat _
theorem cast_shl (x n : Nat) : ((x : Int) * 2 ^ n) = ((x * 2 ^ n : Nat) : Int) := by rw [Int.natCast_mul, Int.natCast_pow]; rfl
theorem w_shl (a : W64) (n : Nat) (hn : n ≤ 64) : IntKind.u64.wrap (ofW a * 2 ^ min n IntKind.u64.bits) = ofW (a <<< n) := by
  have : min n IntKind.u64.bits = n := Nat.min_eq_left hn
  rw [this, wrap_u64_mod]
  unfold ofW
  rw [cast_shl, BitVec.toNat_shiftLeft, Nat.shiftLeft_eq]
  generalize a.toNat * 2 ^ n = x
  omega
theorem w_shr (a : W64) (n : Nat) (hn : n ≤ 64) : (ofW a).fdiv (2 ^ min n IntKind.u64.bits) = ofW (a >>> n) := by
  have : min n IntKind.u64.bits = n := Nat.min_eq_left hn
  have h2 : (2 : Int) ^ n = ((2 ^ n : Nat) : Int) := by rw [Int.natCast_pow]; rfl
  rw [this, h2, Int.fdiv_eq_ediv_of_nonneg _ (Int.natCast_nonneg _)]
  unfold ofW
  rw [BitVec.toNat_ushiftRight, Nat.shiftRight_eq_div_pow, Int.natCast_ediv]
theorem w_com (a : W64) : IntKind.u64.wrap (18446744073709551615 - ofW a) = ofW (~~~a) := by
  have h := a.isLt
  have : (~~~a).toNat = 18446744073709551615 - a.toNat := by rw [BitVec.toNat_not]
  simp only [ofW, this]
  rw [wrap_u64 (by omega) (by omega)]
  omega
theorem w_lit (n : Nat) (h : n < 18446744073709551616) : ((n : Nat) : Int) = ofW (BitVec.ofNat 64 n) := by
  simp only [ofW, BitVec.toNat_ofNat]
  rw [Nat.mod_eq_of_lt h]
/-- Bits turned to the left. -/
def rotL (a : W64) (n : Nat) : W64 := (a <<< n) ||| (a >>> (64 - n))
theorem rotate_c (a : W64) (n : Nat) (hn : n < 64) : PCall Try.prog 25 [.int .u64 (ofW a), .int .i64 n] (.int .u64 (ofW (rotL a n))) := by
  refine PCall.run (Tab.zero_ok _) st25 (by simp) fun E => ?_
  have e0 : IntKind.u64.wrap (n : Int) = (n : Int) := wrap_u64 (by omega) (by omega)
  have e1 : IntKind.u64.wrap ((BitVec.ofInt IntKind.u64.bits (n : Int) &&& BitVec.ofInt IntKind.u64.bits 63).toNat : Int) = (n : Int) := by
    have h : ∀ m : Fin 64, (BitVec.ofInt 64 ((m.1 : Nat) : Int) &&& BitVec.ofInt 64 63).toNat = m.1 := by decide
    have h1 : (BitVec.ofInt IntKind.u64.bits (n : Int) &&& BitVec.ofInt IntKind.u64.bits 63).toNat = n := h ⟨n, hn⟩
    rw [h1]; exact e0
  have e2 : IntKind.u64.wrap (64 - (n : Int)) = ((64 - n : Nat) : Int) := by rw [wrap_u64 (by omega) (by omega)]; omega
  have g1 : ((n : Int) < 0) = False := by simp
  have g2 : (((64 - n : Nat) : Int) < 0) = False := by simp
  simp only [s25, e0, e1, e2, g1, g2, w_shl a n (by omega), w_shr a (64 - n) (by omega), w_or, rotL, Int.natCast_nonneg, Nat.le_refl, Int.le_refl, List.take_succ_cons, List.take_zero, decide_true, decide_false, Bool.and_false, Bool.false_and, zz, zzN, zzF, fltEv, isArithF, ↓reduceIte, Nat.reduceEqDiff, Nat.reduceBEq, Int.reduceLT, Int.reduceLE, Int.reduceToNat, Int.reduceEq, Int.reduceAdd, Int.reduceSub, Int.reduceMul, Int.reduceNeg, Nat.reduceMul, Nat.reduceSub, Nat.reduceLeDiff, Nat.reduceLT, Int.reduceGT, Int.reduceBEq, Int.reduceBNe, reduceCtorEq, Nat.reduceAdd, Ins.map, Fr.ev, argFr, argE, binEv, intEv, shEv, strEv, unEv, Fr.mark, evRes, tup, lenD, lookupD, loadD, partD, storeD, cellsD, cellOk, setAt, objNe, objSame, eqEv, readEv, buildD, buildRows, rowsOf, elemsOf]
theorem turned_c (a : W64) (n : Nat) (hn : n < 64) : PCall Try.prog 29 [.int .u64 (ofW a), .int .i64 n] (.int .u64 (ofW (rotL a n))) := by
  refine PCall.run (Tab.zero_ok _) st29 (by simp) fun E => ?_
  by_cases h0 : n = 0
  · subst h0
    have hz : a >>> (64 - 0) = 0 := by
      apply BitVec.eq_of_toNat_eq
      rw [BitVec.toNat_ushiftRight, Nat.shiftRight_eq_div_pow]
      have := a.isLt
      simp; omega
    have : rotL a 0 = a := by
      unfold rotL
      rw [hz, BitVec.shiftLeft_zero]; exact BitVec.or_zero
    simp only [s29, this, Int.cast_ofNat_Int, Int.natCast_nonneg, Nat.le_refl, Int.le_refl, List.take_succ_cons, List.take_zero, decide_true, decide_false, Bool.and_false, Bool.false_and, zz, zzN, zzF, fltEv, isArithF, ↓reduceIte, Nat.reduceEqDiff, Nat.reduceBEq, Int.reduceLT, Int.reduceLE, Int.reduceToNat, Int.reduceEq, Int.reduceAdd, Int.reduceSub, Int.reduceMul, Int.reduceNeg, Nat.reduceMul, Nat.reduceSub, Nat.reduceLeDiff, Nat.reduceLT, Int.reduceGT, Int.reduceBEq, Int.reduceBNe, reduceCtorEq, Nat.reduceAdd, Ins.map, Fr.ev, argFr, argE, binEv, intEv, shEv, strEv, unEv, Fr.mark, evRes, tup, lenD, lookupD, loadD, partD, storeD, cellsD, cellOk, setAt, objNe, objSame, eqEv, readEv, buildD, buildRows, rowsOf, elemsOf]
  · have e0 : IntKind.u64.wrap (n : Int) = (n : Int) := wrap_u64 (by omega) (by omega)
    have b0 : ((n : Int) == 0) = false := by simp; exact h0
    have e2 : IntKind.i64.wrap (64 - (n : Int)) = ((64 - n : Nat) : Int) := by rw [wrap_i64 (by omega) (by omega)]; omega
    have e3 : IntKind.u64.wrap ((64 - n : Nat) : Int) = ((64 - n : Nat) : Int) := wrap_u64 (by omega) (by omega)
    have g1 : ((n : Int) < 0) = False := by simp
    have g2 : (((64 - n : Nat) : Int) < 0) = False := by simp
    simp only [s29, b0, e0, e2, e3, g1, g2, w_shl a n (by omega), w_shr a (64 - n) (by omega), w_or, rotL, Int.natCast_nonneg, Nat.le_refl, Int.le_refl, List.take_succ_cons, List.take_zero, decide_true, decide_false, Bool.and_false, Bool.false_and, zz, zzN, zzF, fltEv, isArithF, ↓reduceIte, Nat.reduceEqDiff, Nat.reduceBEq, Int.reduceLT, Int.reduceLE, Int.reduceToNat, Int.reduceEq, Int.reduceAdd, Int.reduceSub, Int.reduceMul, Int.reduceNeg, Nat.reduceMul, Nat.reduceSub, Nat.reduceLeDiff, Nat.reduceLT, Int.reduceGT, Int.reduceBEq, Int.reduceBNe, reduceCtorEq, Nat.reduceAdd, Ins.map, Fr.ev, argFr, argE, binEv, intEv, shEv, strEv, unEv, Fr.mark, evRes, tup, lenD, lookupD, loadD, partD, storeD, cellsD, cellOk, setAt, objNe, objSame, eqEv, readEv, buildD, buildRows, rowsOf, elemsOf]
end Go.Proofs.Ytiilnakenlegmaa.Zz
