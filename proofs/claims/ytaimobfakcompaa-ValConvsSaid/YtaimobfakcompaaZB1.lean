/- Contracts: bytes and numbers of the wire. -/
import Derived.Test.YtaimobfakcompaaProg
import Derived.Test.YtaimobfakcompaaZY
import Derived.KernelRfl
namespace Go.Proofs.Ytaimobfakcompaa.Zz
set_option linter.unusedVariables false
set_option linter.unusedSimpArgs false

def p15 : Plan := ⟨⟨[], [], [], [], [], []⟩, []⟩
/-- cupel/cupellaw22.few (1 parameters, 0 captured) -/
def s15 : Stm :=
  .seq (.ops [⟨.mov (.c (.str [])), (some 2), none, true⟩])
  (.seq (.seq (.ops [⟨.mov (.t 0), (some 3), none, true⟩,
      ⟨.len .str (.t 3), (some 4), none, false⟩,
      ⟨.bin .gtr (.t 4) (.c (.int .i64 3000)), (some 5), none, true⟩])
   (.cond (.t 5)
    (.seq (.ops [⟨.mov (.t 0), (some 6), none, true⟩,
        ⟨.slice .str (.t 6) none (some (.c (.int .i64 3000))) none, (some 7), none, false⟩,
        ⟨.mov (.t 7), (some 2), none, true⟩])
     (.ret))
    (.skip)))
  (.seq (.ops [⟨.mov (.t 0), (some 8), none, true⟩,
     ⟨.mov (.t 8), (some 2), none, true⟩])
  (.ret)))
theorem st15 : stmOf Try.prog 15 p15 = some (s15, [.tmp 2], 9) := by kernel_rfl

def p88 : Plan := ⟨⟨[], [], [], [], [], []⟩, []⟩
/-- cupel/wire.Number (2 parameters, 0 captured) -/
def s88 : Stm :=
  .seq (.ops [⟨.mov (.c (.str [])), (some 4), none, true⟩])
  (.seq (.ops [⟨.mov (.t 1), (some 7), none, true⟩,
     ⟨.minmax true (.t 7) (.c (.int .i64 0)), (some 8), none, true⟩,
     ⟨.minmax false (.t 8) (.c (.int .i64 8)), (some 9), none, true⟩,
     ⟨.makeSlice 1 1 [(.int .u8 0)] (.t 9) (.t 9), (some 10), none, false⟩,
     ⟨.mov (.t 10), (some 5), none, true⟩])
  (.seq (.seq (.ops [⟨.mov (.t 5), (some 11), none, true⟩,
      ⟨.len .sl (.t 11), (some 12), none, false⟩,
      ⟨.mov (.c (.int .i64 0)), (some 13), none, true⟩])
   (.block 0 (.loop (.seq (.ops [⟨.bin .lss (.t 13) (.t 12), (some 14), none, true⟩])
     (.seq (.cond (.t 14)
       (.skip)
       (.exit 0))
     (.seq (.block 1 (.seq (.ops [⟨.mov (.t 13), (some 15), none, true⟩,
          ⟨.mov (.t 15), (some 6), none, true⟩])
       (.ops [⟨.mov (.t 5), (some 16), none, true⟩,
         ⟨.mov (.t 6), (some 17), none, true⟩,
         ⟨.mov (.t 0), (some 18), none, true⟩,
         ⟨.conv (.intInt .u8) (.t 18), (some 19), none, true⟩,
         ⟨.mov (.t 0), (some 20), none, true⟩,
         ⟨.bin .shr (.t 20) (.c (.int .u64 8)), (some 21), none, true⟩,
         ⟨.indexAddrS 1 (.t 16) (.t 17), (some 22), none, false⟩,
         ⟨.store 1 (.t 22) (.t 19), none, none, false⟩,
         ⟨.mov (.t 21), (some 0), none, true⟩])))
     (.ops [⟨.bin .add (.t 13) (.c (.int .i64 1)), (some 23), none, true⟩,
       ⟨.mov (.t 23), (some 13), none, true⟩])))))))
  (.seq (.ops [⟨.mov (.t 5), (some 24), none, true⟩,
     ⟨.conv .bytesStr (.t 24), (some 25), none, false⟩,
     ⟨.mov (.t 25), (some 4), none, true⟩])
  (.ret))))
theorem st88 : stmOf Try.prog 88 p88 = some (s88, [.tmp 4], 26) := by kernel_rfl


def few (m : Nat) (s : List UInt8) : List UInt8 := s.take m

theorem few_c (s : List UInt8) : PCall Try.prog 15 [.str s] (.str (few 3000 s)) := by
  refine PCall.run (Tab.zero_ok _) st15 (by simp) fun E => ?_
  simp only [s15, zz, zzO, zzF, fltEv, isArithF, ↓reduceIte, Nat.reduceEqDiff, Nat.reduceBEq, Int.reduceLT, Int.reduceLE, Int.reduceToNat, Int.reduceEq, Int.reduceAdd, Int.reduceSub, Int.reduceMul, Int.reduceNeg, Nat.reduceMul, Nat.reduceSub, Nat.reduceLeDiff, Nat.reduceLT, Int.reduceGT, Int.reduceBEq, Int.reduceBNe, reduceCtorEq, Nat.reduceAdd, Ins.map, Fr.ev, argFr, argE, binEv, intEv, shEv, strEv, unEv, Fr.mark, evRes, tup, lenD, lookupD, loadD, partD, storeD, cellsD, cellOk, setAt, objNe, objSame, eqEv, readEv, buildD, buildRows, rowsOf, elemsOf]
  intro h
  refine ⟨fun h1 => ⟨by omega, .inl (by simp [few])⟩, fun h1 => .inl ?_⟩
  have : s.length ≤ 3000 := by omega
  simp [few, List.take_of_length_le this]

/-- A number's lowest bytes, the lowest first. -/
def leB : Nat → Nat → List UInt8
  | _, 0 => []
  | n, b + 1 => UInt8.ofNat n :: leB (n / 256) b
def bN (m : Int) : Nat := (min (max m 0) 8).toNat
theorem len_leB (n b : Nat) : (leB n b).length = b := by
  induction b generalizing n with
  | zero => rfl
  | succ b ih => simp [leB, ih]
theorem leB_snoc (n b : Nat) : leB n (b + 1) = leB n b ++ [UInt8.ofNat (n / 256 ^ b)] := by
  induction b generalizing n with
  | zero => simp [leB]
  | succ b ih =>
    rw [leB, ih, ← List.cons_append]
    simp only [leB]
    rw [Nat.div_div_eq_div_mul, Nat.pow_succ, Nat.mul_comm]

theorem bN_eq (m : Int) : (if 8 < if m < 0 then 0 else m then 8 else if m < 0 then 0 else m) = (bN m : Int) := by
  unfold bN
  split <;> split <;> omega
theorem bN_le (m : Int) : bN m ≤ 8 := by unfold bN; omega

theorem number_c (n : Nat) (m : Int) (hn : n < 2 ^ 64) : PCall Try.prog 88 [.int .u64 n, .int .i64 m] (.str (leB n (bN m))) := by
  refine PCall.run (Tab.zero_ok _) st88 (by simp) fun E => ?_
  simp only [s88, zz, zzO, zzF, fltEv, isArithF, ↓reduceIte, Nat.reduceEqDiff, Nat.reduceBEq, Int.reduceLT, Int.reduceLE, Int.reduceToNat, Int.reduceEq, Int.reduceAdd, Int.reduceSub, Int.reduceMul, Int.reduceNeg, Nat.reduceMul, Nat.reduceSub, Nat.reduceLeDiff, Nat.reduceLT, Int.reduceGT, Int.reduceBEq, Int.reduceBNe, reduceCtorEq, Nat.reduceAdd, Ins.map, Fr.ev, argFr, argE, binEv, intEv, shEv, strEv, unEv, Fr.mark, evRes, tup, lenD, lookupD, loadD, partD, storeD, cellsD, cellOk, setAt, objNe, objSame, eqEv, readEv, buildD, buildRows, rowsOf, elemsOf]
  have hb := bN_le m
  rw [bN_eq]
  refine ⟨by omega, by omega, ?_⟩
  intro id hl
  simp only [Int.toNat_natCast] at hl ⊢
  have hlen : ∀ i, (encB (leB n i)).length = i := fun i => by simp [encB, len_leB]
  refine run_loop (X := Nat) (fun i => [(0, .int .u64 (n / 256 ^ i : Nat)), (5, .row id (bN m + 2) 0 (bN m)), (12, .int .i64 (bN m)), (13, .int .i64 i)])
    (fun i => AHeap.emp.set id (.row 1 (bN m + 2) (encB (leB n i) ++ List.replicate (bN m - i) [.int .u8 0]) false)) (fun i => bN m - i) (fun i => i ≤ bN m) 0 (Nat.zero_le _) ?_ ?_ ?_
  · simp only [zz, zzO, zzF, fltEv, isArithF, ↓reduceIte, Nat.reduceEqDiff, Nat.reduceBEq, Int.reduceLT, Int.reduceLE, Int.reduceToNat, Int.reduceEq, Int.reduceAdd, Int.reduceSub, Int.reduceMul, Int.reduceNeg, Nat.reduceMul, Nat.reduceSub, Nat.reduceLeDiff, Nat.reduceLT, Int.reduceGT, Int.reduceBEq, Int.reduceBNe, reduceCtorEq, Nat.reduceAdd, Ins.map, Fr.ev, argFr, argE, binEv, intEv, shEv, strEv, unEv, Fr.mark, evRes, tup, lenD, lookupD, loadD, partD, storeD, cellsD, cellOk, setAt, objNe, objSame, eqEv, readEv, buildD, buildRows, rowsOf, elemsOf]
    simp
  · exact AHeap.sub_of_eq (by simp [leB, encB])
  · intro i Q hi hQ
    simp only [zz, zzO, zzF, fltEv, isArithF, ↓reduceIte, Nat.reduceEqDiff, Nat.reduceBEq, Int.reduceLT, Int.reduceLE, Int.reduceToNat, Int.reduceEq, Int.reduceAdd, Int.reduceSub, Int.reduceMul, Int.reduceNeg, Nat.reduceMul, Nat.reduceSub, Nat.reduceLeDiff, Nat.reduceLT, Int.reduceGT, Int.reduceBEq, Int.reduceBNe, reduceCtorEq, Nat.reduceAdd, Ins.map, Fr.ev, argFr, argE, binEv, intEv, shEv, strEv, unEv, Fr.mark, evRes, tup, lenD, lookupD, loadD, partD, storeD, cellsD, cellOk, setAt, objNe, objSame, eqEv, readEv, buildD, buildRows, rowsOf, elemsOf]
    refine ⟨fun h1 => ⟨by omega, ?_⟩, fun h1 => ?_⟩
    · have hget : (encB (leB n i) ++ List.replicate (bN m - i) [D.int .u8 0])[i]? = some [D.int .u8 0] := by
        rw [List.getElem?_append_right (by rw [hlen]; omega), hlen, Nat.sub_self, List.getElem?_replicate]
        rw [if_pos (by omega)]
      simp only [hget, zz, zzO, zzF, fltEv, isArithF, ↓reduceIte, Nat.reduceEqDiff, Nat.reduceBEq, Int.reduceLT, Int.reduceLE, Int.reduceToNat, Int.reduceEq, Int.reduceAdd, Int.reduceSub, Int.reduceMul, Int.reduceNeg, Nat.reduceMul, Nat.reduceSub, Nat.reduceLeDiff, Nat.reduceLT, Int.reduceGT, Int.reduceBEq, Int.reduceBNe, reduceCtorEq, Nat.reduceAdd, Ins.map, Fr.ev, argFr, argE, binEv, intEv, shEv, strEv, unEv, Fr.mark, evRes, tup, lenD, lookupD, loadD, partD, storeD, cellsD, cellOk, setAt, objNe, objSame, eqEv, readEv, buildD, buildRows, rowsOf, elemsOf]
      refine hQ (i + 1) _ _ (by omega) ?_ ?_ (by omega)
      · simp only [zz, zzO, zzF, fltEv, isArithF, ↓reduceIte, Nat.reduceEqDiff, Nat.reduceBEq, Int.reduceLT, Int.reduceLE, Int.reduceToNat, Int.reduceEq, Int.reduceAdd, Int.reduceSub, Int.reduceMul, Int.reduceNeg, Nat.reduceMul, Nat.reduceSub, Nat.reduceLeDiff, Nat.reduceLT, Int.reduceGT, Int.reduceBEq, Int.reduceBNe, reduceCtorEq, Nat.reduceAdd, Ins.map, Fr.ev, argFr, argE, binEv, intEv, shEv, strEv, unEv, Fr.mark, evRes, tup, lenD, lookupD, loadD, partD, storeD, cellsD, cellOk, setAt, objNe, objSame, eqEv, readEv, buildD, buildRows, rowsOf, elemsOf]
        refine ⟨?_, wrap_succ (by omega)⟩
        have : min 8 IntKind.u64.bits = 8 := rfl
        rw [this, Nat.pow_succ, ← Nat.div_div_eq_div_mul, Int.fdiv_eq_ediv_of_nonneg _ (by omega)]
        simp
      · refine AHeap.sub_of_eq ?_
        congr 2
        rw [List.set_append_right _ _ (by rw [hlen]; exact Nat.le_refl _), hlen, Nat.sub_self, leB_snoc, ← enc_append, List.append_assoc]
        obtain ⟨k, hk⟩ : ∃ k, bN m - i = k + 1 := ⟨bN m - i - 1, by omega⟩
        have hk2 : bN m - (i + 1) = k := by omega
        rw [hk, hk2, List.replicate_succ, List.set_cons_zero]
        simp [encB, wrap_u8]
    · have : i = bN m := by omega
      subst this
      have hl2 := len_leB n (bN m)
      simp only [Nat.sub_self, List.replicate_zero, zz, zzO, zzF, fltEv, isArithF, ↓reduceIte, Nat.reduceEqDiff, Nat.reduceBEq, Int.reduceLT, Int.reduceLE, Int.reduceToNat, Int.reduceEq, Int.reduceAdd, Int.reduceSub, Int.reduceMul, Int.reduceNeg, Nat.reduceMul, Nat.reduceSub, Nat.reduceLeDiff, Nat.reduceLT, Int.reduceGT, Int.reduceBEq, Int.reduceBNe, reduceCtorEq, Nat.reduceAdd, Ins.map, Fr.ev, argFr, argE, binEv, intEv, shEv, strEv, unEv, Fr.mark, evRes, tup, lenD, lookupD, loadD, partD, storeD, cellsD, cellOk, setAt, objNe, objSame, eqEv, readEv, buildD, buildRows, rowsOf, elemsOf]
      exact ⟨by omega, .inl (List.take_of_length_le (by omega))⟩
end Go.Proofs.Ytaimobfakcompaa.Zz
