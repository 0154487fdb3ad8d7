/- The plain sponge. -/
import Derived.Test.YtiilnakenlegmaaZK7
namespace Go.Proofs.Ytiilnakenlegmaa.Zz
set_option linter.unusedVariables false
set_option linter.unusedSimpArgs false
set_option maxRecDepth 20000
def p27 : Plan := ⟨⟨[], [], [], [], [], []⟩, [(0, [0, 1, 2, 3, 4, 5, 6, 7, 8, 9, 10, 11, 12, 13, 14, 15, 16, 17, 18, 19, 20, 21, 22, 23])]⟩
/-- (*cupel/sha.Digest).put (2 parameters, 0 captured) -/
def s27 : Stm :=
  .seq (.ops [⟨.mov (.t 0), (some 4), none, true⟩,
     ⟨.mov (.t 0), (some 5), none, true⟩,
     ⟨.nilCheck (.t 5), (some 6), none, true⟩,
     ⟨.fieldAddr 25 (.t 6), (some 7), none, true⟩,
     ⟨.load none (.t 7), (some 8), none, false⟩,
     ⟨.bin .quo (.t 8) (.c (.int .i64 8)), (some 9), none, true⟩,
     ⟨.nilCheck (.t 4), (some 10), none, true⟩,
     ⟨.fieldAddr 0 (.t 10), (some 11), none, true⟩,
     ⟨.indexAddrA 25 1 (.t 11) (.t 9), (some 12), none, true⟩,
     ⟨.load none (.t 12), (some 13), none, false⟩,
     ⟨.mov (.t 1), (some 14), none, true⟩,
     ⟨.conv (.intInt .u64) (.t 14), (some 15), none, true⟩,
     ⟨.mov (.t 0), (some 16), none, true⟩,
     ⟨.nilCheck (.t 16), (some 17), none, true⟩,
     ⟨.fieldAddr 25 (.t 17), (some 18), none, true⟩,
     ⟨.load none (.t 18), (some 19), none, false⟩,
     ⟨.bin .rem (.t 19) (.c (.int .i64 8)), (some 20), none, true⟩,
     ⟨.bin .mul (.t 20) (.c (.int .i64 8)), (some 21), none, true⟩,
     ⟨.bin .shl (.t 15) (.t 21), (some 22), none, true⟩,
     ⟨.bin .xor (.t 13) (.t 22), (some 23), none, true⟩,
     ⟨.nilCheck (.t 4), (some 24), none, true⟩,
     ⟨.fieldAddr 0 (.t 24), (some 25), none, true⟩,
     ⟨.indexAddrA 25 1 (.t 25) (.t 9), (some 26), none, true⟩,
     ⟨.store 1 (.t 26) (.t 23), none, none, false⟩])
  (.seq (.ops [⟨.mov (.t 0), (some 27), none, true⟩,
     ⟨.nilCheck (.t 27), (some 28), none, true⟩,
     ⟨.fieldAddr 25 (.t 28), (some 29), none, true⟩,
     ⟨.load none (.t 29), (some 30), none, false⟩,
     ⟨.bin .add (.t 30) (.c (.int .i64 1)), (some 31), none, true⟩,
     ⟨.nilCheck (.t 27), (some 32), none, true⟩,
     ⟨.fieldAddr 25 (.t 32), (some 33), none, true⟩,
     ⟨.store 1 (.t 33) (.t 31), none, none, false⟩])
  (.seq (.ops [⟨.mov (.t 0), (some 34), none, true⟩,
     ⟨.nilCheck (.t 34), (some 35), none, true⟩,
     ⟨.fieldAddr 25 (.t 35), (some 36), none, true⟩,
     ⟨.load none (.t 36), (some 37), none, false⟩,
     ⟨.bin .eql (.t 37) (.c (.int .i64 136)), (some 38), none, true⟩])
  (.cond (.t 38)
   (.ops [⟨.mov (.t 0), (some 39), none, true⟩,
      ⟨.mov (.t 0), (some 40), none, true⟩,
      ⟨.mov (.t 0), (some 41), none, true⟩,
      ⟨.nilCheck (.t 41), (some 42), none, true⟩,
      ⟨.fieldAddr 0 (.t 42), (some 43), none, true⟩,
      ⟨.load (some 25) (.t 43), (some 44), none, false⟩,
      ⟨.qcall (.f 9) [(.t 44)], (some 45), none, false⟩,
      ⟨.nilCheck (.t 39), (some 46), none, true⟩,
      ⟨.fieldAddr 0 (.t 46), (some 47), none, true⟩,
      ⟨.store 25 (.t 47) (.t 45), none, none, false⟩,
      ⟨.nilCheck (.t 40), (some 48), none, true⟩,
      ⟨.fieldAddr 25 (.t 48), (some 49), none, true⟩,
      ⟨.store 1 (.t 49) (.c (.int .i64 0)), none, none, false⟩])
   (.skip))))
theorem st27 : stmOf Try.prog 27 p27 = some (s27, [], 50) := by kernel_rfl

def byW (b : UInt8) (j : Nat) : W64 := BitVec.ofNat 64 b.toNat <<< (j % 8 * 8)
def soakB (a : List W64) (j : Nat) (b : UInt8) : List W64 := a.set (j / 8) (a.getD (j / 8) 0 ^^^ byW b j)
/-- A sponge soaks up a byte, and bytes; the digest. -/
def putS (s : List W64 × Nat) (b : UInt8) : List W64 × Nat := if s.2 + 1 = 136 then (turnF (soakB s.1 s.2 b) 24, 0) else (soakB s.1 s.2 b, s.2 + 1)
def writeS (s : List W64 × Nat) (l : List UInt8) : List W64 × Nat := l.foldl putS s
def outB (a : List W64) (i : Nat) : UInt8 := UInt8.ofNat ((a.getD (i / 8) 0 >>> (i % 8 * 8)).toNat % 256)
def outS (a : List W64) : List UInt8 := (List.range 32).map (outB a)
def endS (a : List W64) : List W64 := a.set 16 (a.getD 16 0 ^^^ 9223372036854775808)
def sumS (s : List W64 × Nat) : List UInt8 := outS (turnF (endS (soakB s.1 s.2 6)) 24)
def shaB (l : List UInt8) : List UInt8 := sumS (writeS (zW, 0) l)
theorem sha0 : shaB [] = [0xa7, 0xff, 0xc6, 0xf8, 0xbf, 0x1e, 0xd7, 0x66, 0x51, 0xc1, 0x47, 0x56, 0xa0, 0x61, 0xd6, 0x62, 0xf5, 0x80, 0xff, 0x4d, 0xe4, 0x3b, 0x49, 0xfa, 0x82, 0xd8, 0x0a, 0x4b, 0x80, 0xf8, 0x43, 0x4a] := by decide +kernel
theorem len_soakB (a : List W64) (j : Nat) (b : UInt8) : (soakB a j b).length = a.length := by simp [soakB]
theorem putS_ok {s : List W64 × Nat} {b : UInt8} (h1 : s.1.length = 25) (h2 : s.2 < 136) : (putS s b).1.length = 25 ∧ (putS s b).2 < 136 := by
  unfold putS
  split
  · exact ⟨by rw [len_turnF, len_soakB, h1], Nat.lt_of_lt_of_le (Nat.zero_lt_succ 0) (by omega)⟩
  · exact ⟨by simp only [len_soakB, h1], by simp only; omega⟩
/-- A digest's cells. -/
def encG (s : List W64 × Nat) : List D := encW s.1 ++ [.int .i64 s.2]
theorem encG_len {s : List W64 × Nat} (h : s.1.length = 25) : (encG s).length = 26 := by simp [encG, len_encW, h]
theorem encG_at {s : List W64 × Nat} (h : s.1.length = 25) : (encG s)[25]? = some (.int .i64 s.2) := by
  rw [encG, List.getElem?_append_right (by rw [len_encW, h]; exact Nat.le_refl _), len_encW, h]; rfl
theorem encG_get {s : List W64 × Nat} (h : s.1.length = 25) {i : Nat} (hi : i < 25) : (encG s)[i]? = some (.int .u64 (ofW (s.1.getD i 0))) := by
  rw [encG, List.getElem?_append_left (by rw [len_encW, h]; exact hi)]
  exact encW_get (by rw [h]; exact hi)
theorem encG_set {s : List W64 × Nat} (h : s.1.length = 25) {i : Nat} {v : W64} (hi : i < 25) : (encG s).set i (.int .u64 (ofW v)) = encG (s.1.set i v, s.2) := by
  rw [encG, List.set_append_left _ _ (by rw [len_encW, h]; exact hi), encW_set]; rfl
theorem encG_set25 {s : List W64 × Nat} (h : s.1.length = 25) {n : Nat} : (encG s).set 25 (.int .i64 n) = encG (s.1, n) := by
  have e : 25 = (encW s.1).length := by rw [len_encW, h]
  rw [encG, e, List.set_append_right _ _ (Nat.le_refl _), Nat.sub_self]; rfl
theorem encG_take {s : List W64 × Nat} (h : s.1.length = 25) : (encG s).take 25 = encW s.1 := by
  have e : 25 = (encW s.1).length := by rw [len_encW, h]
  rw [encG, e, List.take_left]
theorem setAt_app : ∀ (m p l q : List D), m.length = l.length → setAt (p ++ l ++ q) p.length m = p ++ m ++ q
  | [], p, [], _, _ => rfl
  | d :: m, p, x :: l, q, h => by
    have e : (p ++ x :: l ++ q).set p.length d = (p ++ [d]) ++ l ++ q := by simp
    have := setAt_app m (p ++ [d]) l q (by simpa using h)
    unfold setAt
    rw [e]
    simpa using this
theorem encG_all {s : List W64 × Nat} (h : s.1.length = 25) {a : List W64} (ha : a.length = 25) : setAt (encG s) 0 (encW a) = encG (a, s.2) := by
  have := setAt_app (encW a) [] (encW s.1) [.int .i64 s.2] (by rw [len_encW, len_encW, h, ha])
  simpa [encG] using this
def q9 : List D → Option D
  | [.agg s'] => match decW s' with
    | some s => if s.length = 25 then some (.agg (encW (turnF s 24))) else none
    | _ => none
  | _ => none
theorem q9_ok (args : List D) (d : D) (h : q9 args = some d) : PCall Try.prog 9 args d := by
  unfold q9 at h
  split at h
  · split at h
    · rename_i e0
      cases decW_some e0
      split at h
      · cases h; exact turn_c _ (by assumption)
      · cases h
    · cases h
  · cases h

theorem q9_eq {s : List W64} (hs : s.length = 25) : q9 [.agg (encW s)] = some (.agg (encW (turnF s 24))) := by
  simp only [q9, decW_enc]
  rw [if_pos hs]
def tb9 : Tab := Tab.zero.addQ 9 q9
theorem tb9_q (g : FuncId) (args : List D) : tb9.q g args = if g = 9 then q9 args else Tab.zero.q g args := rfl
theorem tb9_a : tb9.a = Tab.zero.a := rfl
theorem tb9_c : tb9.c = Tab.zero.c := rfl
theorem tb9_ok : tb9.ok Try.prog := Tab.addQ_ok (Tab.zero_ok _) q9_ok
theorem tb9_e : type_of% (And.intro @tb9_q (And.intro @tb9_a @tb9_c)) := (And.intro @tb9_q (And.intro @tb9_a @tb9_c))

set_option maxHeartbeats 4000000 in
theorem put_c (h : AHeap) (id : Nat) (s : List W64 × Nat) (b : UInt8) (hid : h.f id = some (.cells (encG s))) (h1 : s.1.length = 25) (h2 : s.2 < 136) : ACalls Try.prog 27 [.ptr id 1 0, .int .u8 b.toNat] h fun o h' => ∃ d, o = .ret d ∧ d = .tuple [] ∧ h' = h.set id (.cells (encG (putS s b))) := by
  refine ACalls.runF tb9_ok st27 (by simp) ?_
  have m8 : Int.tmod (s.2 : Int) 8 = ((s.2 % 8 : Nat) : Int) := tmod_nat s.2 8
  have d8 : Int.tdiv (s.2 : Int) 8 = ((s.2 / 8 : Nat) : Int) := tdiv_nat s.2 8
  have wd : IntKind.i64.wrap ((s.2 / 8 : Nat) : Int) = ((s.2 / 8 : Nat) : Int) := wr _ (by omega)
  have g := encG_at h1
  have g1 := encG_get h1 (i := s.2 / 8) (by omega)
  have ld : (((s.2 / 8 : Nat) : Int) < 25) = True := by simp; omega
  have pd : 0 + s.2 / 8 * 1 = s.2 / 8 := by omega
  have wb : IntKind.u64.wrap ((b.toNat : Nat) : Int) = ofW (BitVec.ofNat 64 b.toNat) := by
    have := b.toNat_lt
    rw [wrap_u64 (by omega) (by omega), w_lit _ (by omega)]
  have wm : IntKind.i64.wrap (((s.2 % 8 : Nat) : Int) * 8) = ((s.2 % 8 * 8 : Nat) : Int) := by rw [wrap_i64 (by omega) (by omega)]; omega
  have lm : (((s.2 % 8 * 8 : Nat) : Int) < 0) = False := eq_false (by omega)
  have ws := w_shl (BitVec.ofNat 64 b.toNat) (s.2 % 8 * 8) (by omega)
  obtain ⟨a, n⟩ := s
  simp only at *
  have la : (soakB a n b).length = 25 := by rw [len_soakB, h1]
  have gs : (encG (a, n)).set (n / 8) (.int .u64 (ofW (a.getD (n / 8) 0 ^^^ BitVec.ofNat 64 b.toNat <<< (n % 8 * 8)))) = encG (soakB a n b, n) := encG_set (s := (a, n)) h1 (by omega)
  have fp : putS (a, n) b = if n + 1 = 136 then (turnF (soakB a n b) 24, 0) else (soakB a n b, n + 1) := rfl
  have q := q9_eq la
  have lt : (turnF (soakB a n b) 24).length = 25 := by rw [len_turnF, la]
  generalize turnF (soakB a n b) 24 = T at *
  generalize soakB a n b = S at *
  have ga := encG_at (s := (S, n)) la
  have gb := encG_at (s := (S, n + 1)) la
  have gs2 : (encG (S, n)).set 25 (.int .i64 ((n + 1 : Nat) : Int)) = encG (S, n + 1) := encG_set25 (s := (S, n)) la
  have gt := encG_take (s := (S, n + 1)) la
  have gall := encG_all (s := (S, n + 1)) la lt
  have gs3 : (encG (T, n + 1)).set 25 (.int .i64 0) = encG (T, 0) := encG_set25 (s := (T, n + 1)) (n := 0) lt
  have l1 := encG_len (s := (a, n)) h1
  have l2 := encG_len (s := (S, n)) la
  have l3 := encG_len (s := (S, n + 1)) la
  have l4 := encG_len (s := (T, n + 1)) lt
  have cW : ∀ l : List W64, (encW l).all cellOk = true := fun l => by simp [encW, cellOk]
  have wn : IntKind.i64.wrap ((n : Int) + 1) = ((n + 1 : Nat) : Int) := wrap_succ (by omega)
  have n8 : (n / 8 ≤ 25) = True := eq_true (by omega)
  simp only at g g1 ga gb gs2 gt gall gs3 l1 l2 l3 l4
  by_cases c : n + 1 = 136
  · have gc : (((n + 1 : Nat) : Int) == 136) = true := by simp; omega
    rw [if_pos c] at fp
    rw [fp]
    simp (config := {maxSteps := 1000000}) only [s27, hid, m8, d8, wd, g, g1, ld, pd, wb, wm, lm, ws, w_xor, gs, ga, gs2, gb, gt, q, gall, gs3, l1, l2, l3, l4, len_encW, lt, la, cW, wn, gc, n8, plC_encW, frz_encW, Nat.mul_one, tb26_e, tb9_e, Int.natCast_nonneg, Nat.le_refl, Int.le_refl, List.take_succ_cons, List.take_zero, decide_true, decide_false, Bool.and_false, Bool.false_and, zz, zzN, zzF, fltEv, isArithF, ↓reduceIte, Nat.reduceEqDiff, Nat.reduceBEq, Int.reduceLT, Int.reduceLE, Int.reduceToNat, Int.reduceEq, Int.reduceAdd, Int.reduceSub, Int.reduceMul, Int.reduceNeg, Nat.reduceMul, Nat.reduceSub, Nat.reduceLeDiff, Nat.reduceLT, Int.reduceGT, Int.reduceBEq, Int.reduceBNe, reduceCtorEq, Nat.reduceAdd, Ins.map, Fr.ev, argFr, argE, binEv, intEv, shEv, strEv, unEv, Fr.mark, evRes, tup, lenD, lookupD, loadD, partD, storeD, cellsD, cellOk, setAt, objNe, objSame, eqEv, readEv, buildD, buildRows, rowsOf, elemsOf]
    exact ⟨_, AHeap.sub_refl _, rfl⟩
  · have gc : (((n + 1 : Nat) : Int) == 136) = false := by simp; omega
    rw [if_neg c] at fp
    rw [fp]
    simp (config := {maxSteps := 1000000}) only [s27, hid, m8, d8, wd, g, g1, ld, pd, wb, wm, lm, ws, w_xor, gs, ga, gs2, gb, gt, q, gall, gs3, l1, l2, l3, l4, len_encW, lt, la, cW, wn, gc, n8, plC_encW, frz_encW, Nat.mul_one, tb26_e, tb9_e, Int.natCast_nonneg, Nat.le_refl, Int.le_refl, List.take_succ_cons, List.take_zero, decide_true, decide_false, Bool.and_false, Bool.false_and, zz, zzN, zzF, fltEv, isArithF, ↓reduceIte, Nat.reduceEqDiff, Nat.reduceBEq, Int.reduceLT, Int.reduceLE, Int.reduceToNat, Int.reduceEq, Int.reduceAdd, Int.reduceSub, Int.reduceMul, Int.reduceNeg, Nat.reduceMul, Nat.reduceSub, Nat.reduceLeDiff, Nat.reduceLT, Int.reduceGT, Int.reduceBEq, Int.reduceBNe, reduceCtorEq, Nat.reduceAdd, Ins.map, Fr.ev, argFr, argE, binEv, intEv, shEv, strEv, unEv, Fr.mark, evRes, tup, lenD, lookupD, loadD, partD, storeD, cellsD, cellOk, setAt, objNe, objSame, eqEv, readEv, buildD, buildRows, rowsOf, elemsOf]
    exact ⟨_, AHeap.sub_refl _, rfl⟩
end Go.Proofs.Ytiilnakenlegmaa.Zz
