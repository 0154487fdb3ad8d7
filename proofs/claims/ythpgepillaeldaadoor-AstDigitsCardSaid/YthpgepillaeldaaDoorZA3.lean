/- Contracts: a tree is put, and counted. -/
import Derived.Test.YthpgepillaeldaaDoorZW3
namespace Go.Proofs.YthpgepillaeldaaDoor.Zz
set_option linter.unusedVariables false
set_option linter.unusedSimpArgs false
set_option maxRecDepth 20000
def p41n : Plan := ⟨⟨[], [(1, 4), (2, 4), (3, 3), (4, 4), (5, 5), (9, 2)], [], [], [], []⟩, []⟩
/-- cupel/ast.Put (2 parameters, 0 captured) -/
def s41n : Stm :=
  .seq (.ops [⟨.box (.t 1), (some 3), none, false⟩])
  (.seq (.ops [⟨.mov (.t 0), (some 6), none, true⟩,
     ⟨.fieldAddr 0 (.t 3), (some 7), none, true⟩,
     ⟨.load none (.t 7), (some 8), none, false⟩,
     ⟨.conv (.intInt .u64) (.t 8), (some 9), none, true⟩,
     ⟨.call (.f 74) [(.t 6), (.t 9), (.c (.int .i64 1))], (some 10), none, false⟩])
  (.seq (.ops [⟨.mov (.t 0), (some 11), none, true⟩,
     ⟨.fieldAddr 1 (.t 3), (some 12), none, true⟩,
     ⟨.load none (.t 12), (some 13), none, false⟩,
     ⟨.conv (.intInt .u64) (.t 13), (some 14), none, true⟩,
     ⟨.call (.f 74) [(.t 11), (.t 14), (.c (.int .i64 1))], (some 15), none, false⟩])
  (.seq (.ops [⟨.mov (.t 0), (some 16), none, true⟩,
     ⟨.fieldAddr 2 (.t 3), (some 17), none, true⟩,
     ⟨.load none (.t 17), (some 18), none, false⟩,
     ⟨.call (.f 75) [(.t 16), (.t 18)], (some 19), none, false⟩])
  (.seq (.ops [⟨.mov (.t 0), (some 20), none, true⟩,
     ⟨.fieldAddr 3 (.t 3), (some 21), none, true⟩,
     ⟨.load none (.t 21), (some 22), none, false⟩,
     ⟨.conv (.intInt .u64) (.t 22), (some 23), none, true⟩,
     ⟨.call (.f 74) [(.t 20), (.t 23), (.c (.int .i64 8))], (some 24), none, false⟩])
  (.seq (.ops [⟨.mov (.t 0), (some 25), none, true⟩,
     ⟨.fieldAddr 4 (.t 3), (some 26), none, true⟩,
     ⟨.load none (.t 26), (some 27), none, false⟩,
     ⟨.len .sl (.t 27), (some 28), none, false⟩,
     ⟨.conv (.intInt .u64) (.t 28), (some 29), none, true⟩,
     ⟨.call (.f 74) [(.t 25), (.t 29), (.c (.int .i64 1))], (some 30), none, false⟩])
  (.seq (.ops [⟨.fieldAddr 4 (.t 3), (some 31), none, true⟩,
     ⟨.load none (.t 31), (some 32), none, false⟩,
     ⟨.len .sl (.t 32), (some 33), none, false⟩,
     ⟨.mov (.c (.int .i64 0)), (some 34), none, true⟩])
  (.block 0 (.loop (.seq (.ops [⟨.bin .lss (.t 34) (.t 33), (some 35), none, true⟩])
    (.seq (.cond (.t 35)
      (.skip)
      (.exit 0))
    (.seq (.block 1 (.seq (.ops [⟨.indexAddrS 5 (.t 32) (.t 34), (some 36), none, false⟩,
         ⟨.load (some 5) (.t 36), (some 37), none, false⟩,
         ⟨.alloc [(.int .i64 0), (.int .i64 0), (.str []), (.int .i64 0), .nilsl], (some 5), none, false⟩,
         ⟨.store 5 (.t 5) (.t 37), none, none, false⟩])
      (.ops [⟨.mov (.t 0), (some 38), none, true⟩,
        ⟨.load (some 5) (.t 5), (some 39), none, false⟩,
        ⟨.call (.f 41) [(.t 38), (.t 39)], (some 40), none, false⟩])))
    (.ops [⟨.bin .add (.t 34) (.c (.int .i64 1)), (some 41), none, true⟩,
      ⟨.mov (.t 41), (some 34), none, true⟩]))))))))))))
theorem st41n : stmOf Tryd.prog 41 p41n = some (s41n, [], 42) := by kernel_rfl

def p13n : Plan := ⟨⟨[], [(1, 0), (2, 2), (3, 1)], [], [], [], [(1, 0)]⟩, []⟩
/-- cupel/ast.Encode (1 parameters, 0 captured) -/
def s13n : Stm :=
  .seq (.ops [⟨.box (.t 0), (some 1), none, false⟩,
     ⟨.mov (.c (.str [])), (some 2), none, true⟩])
  (.seq (.ops [⟨.callA 40, (some 4), none, false⟩,
     ⟨.mov (.t 4), (some 3), none, true⟩])
  (.seq (.ops [⟨.mov (.t 3), (some 5), none, true⟩,
     ⟨.load (some 5) (.t 1), (some 6), none, false⟩,
     ⟨.call (.f 41) [(.t 5), (.t 6)], (some 7), none, false⟩])
  (.seq (.ops [⟨.mov (.t 3), (some 8), none, true⟩,
     ⟨.call (.f 42) [(.t 8)], (some 9), none, false⟩,
     ⟨.mov (.t 9), (some 2), none, true⟩])
  (.ret))))
theorem st13n : stmOf Tryd.prog 13 p13n = some (s13n, [.tmp 2], 10) := by kernel_rfl

def uB (k : Int) (m : Nat) : List UInt8 := leB (k % 18446744073709551616).toNat m
mutual
/-- A tree's bytes. -/
def encF : Nd → List UInt8
  | .mk k t s n l => uB k 1 ++ uB t 1 ++ (leB s.length 4 ++ s) ++ uB n 8 ++ leB l.length 1 ++ encFs l
def encFs : List Nd → List UInt8
  | [] => []
  | x :: l => encF x ++ encFs l
end
theorem encF_mk (k t : Int) (s : List UInt8) (n : Int) (l : List Nd) : encF (.mk k t s n l) = uB k 1 ++ uB t 1 ++ (leB s.length 4 ++ s) ++ uB n 8 ++ leB l.length 1 ++ encFs l := by rw [encF]
theorem encFs_nil : encFs [] = [] := by rw [encFs]
theorem encFs_cons (x : Nd) (l : List Nd) : encFs (x :: l) = encF x ++ encFs l := by rw [encFs]
theorem encFs_app (l r : List Nd) : encFs (l ++ r) = encFs l ++ encFs r := by
  induction l with
  | nil => rw [encFs_nil]; rfl
  | cons x l ih => rw [List.cons_append, encFs_cons, ih, encFs_cons, List.append_assoc]
theorem encFs_take {l : List Nd} {i : Nat} {x : Nd} (h : l[i]? = some x) : encFs (l.take (i + 1)) = encFs (l.take i) ++ encF x := by
  rw [List.take_add_one, h, encFs_app]; simp [encFs_cons, encFs_nil]
theorem encFs_le (l : List Nd) (i : Nat) : (encFs (l.take i)).length ≤ (encFs l).length := by
  have := congrArg List.length (congrArg encFs (List.take_append_drop i l))
  rw [encFs_app, List.length_append] at this; omega
theorem wrTo_keep {h h' : AHeap} {id r r' j : Nat} {s t : List UInt8} {o : AObj} (a : wrTo h h' id r r' s t) (hj : h.f j = some o) (n1 : j ≠ id) (n2 : s ≠ [] → j ≠ r) : h'.f j = some o := by
  rw [a.2.2.2 j (by rw [hj]; simp) n1 n2]; exact hj
theorem wrAt_set {h : AHeap} {id r i : Nat} {s : List UInt8} {o : AObj} (hn : h.f i = none) (a : wrAt h id r s) : wrAt (h.set i o) id r s := by
  have e1 : ¬ id = i := fun e => by subst e; rw [a.1] at hn; cases hn
  refine ⟨by rw [AHeap.set_f, if_neg e1]; exact a.1, fun s0n => ⟨(a.2 s0n).1, ?_⟩⟩
  have e2 : ¬ r = i := fun e => by subst e; rw [(a.2 s0n).2] at hn; cases hn
  rw [AHeap.set_f, if_neg e2]; exact (a.2 s0n).2
def aPut (f : Nat) (id : Nat) (args : List D) (t : List UInt8) : Prop := ∃ n : Nd, n.cnt < f ∧ args = [.ptr id 1 0, .agg n.enc] ∧ t = encF n
def c41n (f : Nat) := wrC (aPut f)
theorem c41n_mono (f : Nat) : type_of% (@wrC_mono (aPut f)) := @wrC_mono (aPut f)
set_option maxHeartbeats 1000000 in
theorem put_c (f : Nat) (hT : (tb40n.addW 41 (c41n f) (c41n_mono f)).ok Tryd.prog) (id r : Nat) (s : List UInt8) (n : Nd) (hn : n.cnt < f + 1) (h : AHeap) (hw : wrAt h id r s) (hb : s.length + (encF n).length ≤ 140737488355328) :
    ACalls Tryd.prog 41 [.ptr id 1 0, .agg n.enc] h fun o h' => ∃ d, o = .ret d ∧ d = .tuple [] ∧ ∃ r', wrTo h h' id r r' s (encF n) := by
  obtain ⟨k, t, x, m, l⟩ := n
  refine ACalls.run hT st41n (by simp) fun E => ?_
  have hT_q : ∀ g args h K E, (tb40n.addW 41 (c41n f) (c41n_mono f)).c g args h K E = if g = 41 then c41n f args h K else tb40n.c g args h K E := fun g args h K E => rfl
  generalize tb40n.addW 41 (c41n f) (c41n_mono f) = TT at hT_q ⊢
  have hl : ∀ n m, (leB n m).length = m := len_leB
  have hu : ∀ n m, (uB n m).length = m := fun n m => len_leB _ _
  have hcnt : ∀ y ∈ l, y.cnt < f := fun y hy => by have := cnt_kid (k := k) (t := t) (s := x) (n := m) hy; omega
  rw [encF_mk] at hb ⊢
  simp only [List.length_append, hl, hu] at hb
  rw [enc_mk]
  have hw64 : ∀ k : Int, IntKind.u64.wrap k = ((k % 18446744073709551616).toNat : Int) := fun k => by rw [wrap_u64_mod]; omega
  have hlt : ∀ k : Int, (k % 18446744073709551616).toNat < 2 ^ 64 := fun k => by omega
  simp (config := {maxSteps := 1000000}) only [s41n, hw64, hT_q, tb100n_e, tb40n_e, i_callNe, keptAt, Int.natCast_nonneg, Nat.le_refl, Int.le_refl, List.take_succ_cons, List.take_zero, decide_true, decide_false, Bool.and_false, Bool.false_and, zz, zzN, zzF, fltEv, isArithF, ↓reduceIte, Nat.reduceEqDiff, Nat.reduceBEq, Int.reduceLT, Int.reduceLE, Int.reduceToNat, Int.reduceEq, Int.reduceAdd, Int.reduceSub, Int.reduceMul, Int.reduceNeg, Nat.reduceMul, Nat.reduceSub, Nat.reduceLeDiff, Nat.reduceLT, Int.reduceGT, Int.reduceGE, Int.reduceBEq, Int.reduceBNe, reduceCtorEq, Nat.reduceAdd, Ins.map, Fr.ev, argFr, argE, binEv, intEv, shEv, strEv, unEv, Fr.mark, evRes, tup, lenD, lookupD, loadD, partD, storeD, cellsD, cellOk, setAt, objNe, objSame, eqEv, readEv, lent_bool, lent_int, lent_float, lent_str, lent_agg, lent_tuple, lent_sl, lent_func, lent_iface, lent_nilif, lent_same, buildD, buildRows, rowsOf, elemsOf, normX, unnil, isNil, List.any_cons, List.any_nil, List.map_cons, List.map_nil, Bool.or_false, Bool.false_or, Bool.or_true, Bool.true_or, cond_true, cond_false]
  intro i3 k3
  have n3 : ¬ i3 = id := fun e => by subst e; rw [hw.1] at k3; cases k3
  have n3' : ¬ id = i3 := fun e => n3 e.symm
  have v3 : (h.set i3 (.cells [.int .i64 k, .int .i64 t, .str x, .int .i64 m, .sl (Nd.encs l)])).f i3 = some (.cells [.int .i64 k, .int .i64 t, .str x, .int .i64 m, .sl (Nd.encs l)]) := by rw [AHeap.set_f, if_pos rfl]
  have nr : s ≠ [] → i3 ≠ r := fun s0n e => by subst e; rw [(hw.2 s0n).2] at k3; cases k3
  have hw0 : wrAt (h.set i3 (.cells [.int .i64 k, .int .i64 t, .str x, .int .i64 m, .sl (Nd.encs l)])) id r s := ⟨by rw [AHeap.set_f, if_neg n3']; exact hw.1, fun s0n => ⟨(hw.2 s0n).1, by rw [AHeap.set_f, if_neg (fun e => nr s0n e.symm)]; exact (hw.2 s0n).2⟩⟩
  have hpre : ∀ h2 r2, wrTo (h.set i3 (.cells [.int .i64 k, .int .i64 t, .str x, .int .i64 m, .sl (Nd.encs l)])) h2 id r r2 s _ → wrTo h h2 id r r2 s _ := fun h2 r2 => wrTo_pre (t := uB k 1 ++ uB t 1 ++ (leB x.length 4 ++ x) ++ uB m 8 ++ leB l.length 1 ++ encFs l) k3
  generalize h.set i3 (.cells [.int .i64 k, .int .i64 t, .str x, .int .i64 m, .sl (Nd.encs l)]) = h0 at *
  have hi0 : h0.f id ≠ none := by rw [hw0.1]; simp
  refine ⟨id, r, s, uB k 1, ⟨_, 1, hlt k, rfl, rfl⟩, hw0, by rw [hu]; omega, fun r1 h1 a1 => ?_⟩
  have v1 := wrTo_keep a1 v3 n3 nr
  simp (config := {maxSteps := 1000000}) only [hw64, v1, hT_q, tb100n_e, tb40n_e, i_callNe, keptAt, Int.natCast_nonneg, Nat.le_refl, Int.le_refl, List.take_succ_cons, List.take_zero, decide_true, decide_false, Bool.and_false, Bool.false_and, zz, zzN, zzF, fltEv, isArithF, ↓reduceIte, Nat.reduceEqDiff, Nat.reduceBEq, Int.reduceLT, Int.reduceLE, Int.reduceToNat, Int.reduceEq, Int.reduceAdd, Int.reduceSub, Int.reduceMul, Int.reduceNeg, Nat.reduceMul, Nat.reduceSub, Nat.reduceLeDiff, Nat.reduceLT, Int.reduceGT, Int.reduceGE, Int.reduceBEq, Int.reduceBNe, reduceCtorEq, Nat.reduceAdd, Ins.map, Fr.ev, argFr, argE, binEv, intEv, shEv, strEv, unEv, Fr.mark, evRes, tup, lenD, lookupD, loadD, partD, storeD, cellsD, cellOk, setAt, objNe, objSame, eqEv, readEv, lent_bool, lent_int, lent_float, lent_str, lent_agg, lent_tuple, lent_sl, lent_func, lent_iface, lent_nilif, lent_same, buildD, buildRows, rowsOf, elemsOf, normX, unnil, isNil, List.any_cons, List.any_nil, List.map_cons, List.map_nil, Bool.or_false, Bool.false_or, Bool.or_true, Bool.true_or, cond_true, cond_false]
  refine ⟨id, r1, _, uB t 1, ⟨_, 1, hlt t, rfl, rfl⟩, a1.1, by simp only [List.length_append, hl, hu]; omega, fun r2 h2 b2 => ?_⟩
  have a2 := wrTo_trans hi0 a1 b2
  clear a1 b2
  have v2 := wrTo_keep a2 v3 n3 nr
  simp (config := {maxSteps := 1000000}) only [hw64, v2, hT_q, tb100n_e, tb40n_e, i_callNe, keptAt, Int.natCast_nonneg, Nat.le_refl, Int.le_refl, List.take_succ_cons, List.take_zero, decide_true, decide_false, Bool.and_false, Bool.false_and, zz, zzN, zzF, fltEv, isArithF, ↓reduceIte, Nat.reduceEqDiff, Nat.reduceBEq, Int.reduceLT, Int.reduceLE, Int.reduceToNat, Int.reduceEq, Int.reduceAdd, Int.reduceSub, Int.reduceMul, Int.reduceNeg, Nat.reduceMul, Nat.reduceSub, Nat.reduceLeDiff, Nat.reduceLT, Int.reduceGT, Int.reduceGE, Int.reduceBEq, Int.reduceBNe, reduceCtorEq, Nat.reduceAdd, Ins.map, Fr.ev, argFr, argE, binEv, intEv, shEv, strEv, unEv, Fr.mark, evRes, tup, lenD, lookupD, loadD, partD, storeD, cellsD, cellOk, setAt, objNe, objSame, eqEv, readEv, lent_bool, lent_int, lent_float, lent_str, lent_agg, lent_tuple, lent_sl, lent_func, lent_iface, lent_nilif, lent_same, buildD, buildRows, rowsOf, elemsOf, normX, unnil, isNil, List.any_cons, List.any_nil, List.map_cons, List.map_nil, Bool.or_false, Bool.false_or, Bool.or_true, Bool.true_or, cond_true, cond_false]
  refine ⟨id, r2, _, leB x.length 4 ++ x, ⟨_, rfl, rfl⟩, a2.1, by simp only [List.length_append, hl, hu]; omega, fun r3 h3 b3 => ?_⟩
  have a3 := wrTo_trans hi0 a2 b3
  clear a2 b3
  have v3' := wrTo_keep a3 v3 n3 nr
  simp (config := {maxSteps := 1000000}) only [hw64, v3', hT_q, tb100n_e, tb40n_e, i_callNe, keptAt, Int.natCast_nonneg, Nat.le_refl, Int.le_refl, List.take_succ_cons, List.take_zero, decide_true, decide_false, Bool.and_false, Bool.false_and, zz, zzN, zzF, fltEv, isArithF, ↓reduceIte, Nat.reduceEqDiff, Nat.reduceBEq, Int.reduceLT, Int.reduceLE, Int.reduceToNat, Int.reduceEq, Int.reduceAdd, Int.reduceSub, Int.reduceMul, Int.reduceNeg, Nat.reduceMul, Nat.reduceSub, Nat.reduceLeDiff, Nat.reduceLT, Int.reduceGT, Int.reduceGE, Int.reduceBEq, Int.reduceBNe, reduceCtorEq, Nat.reduceAdd, Ins.map, Fr.ev, argFr, argE, binEv, intEv, shEv, strEv, unEv, Fr.mark, evRes, tup, lenD, lookupD, loadD, partD, storeD, cellsD, cellOk, setAt, objNe, objSame, eqEv, readEv, lent_bool, lent_int, lent_float, lent_str, lent_agg, lent_tuple, lent_sl, lent_func, lent_iface, lent_nilif, lent_same, buildD, buildRows, rowsOf, elemsOf, normX, unnil, isNil, List.any_cons, List.any_nil, List.map_cons, List.map_nil, Bool.or_false, Bool.false_or, Bool.or_true, Bool.true_or, cond_true, cond_false]
  refine ⟨id, r3, _, uB m 8, ⟨_, 8, hlt m, rfl, rfl⟩, a3.1, by simp only [List.length_append, hl, hu]; omega, fun r4 h4 b4 => ?_⟩
  have a4 := wrTo_trans hi0 a3 b4
  clear a3 b4
  have v4 := wrTo_keep a4 v3 n3 nr
  simp (config := {maxSteps := 1000000}) only [hw64, v4, hT_q, tb100n_e, tb40n_e, i_callNe, keptAt, Int.natCast_nonneg, Nat.le_refl, Int.le_refl, List.take_succ_cons, List.take_zero, decide_true, decide_false, Bool.and_false, Bool.false_and, zz, zzN, zzF, fltEv, isArithF, ↓reduceIte, Nat.reduceEqDiff, Nat.reduceBEq, Int.reduceLT, Int.reduceLE, Int.reduceToNat, Int.reduceEq, Int.reduceAdd, Int.reduceSub, Int.reduceMul, Int.reduceNeg, Nat.reduceMul, Nat.reduceSub, Nat.reduceLeDiff, Nat.reduceLT, Int.reduceGT, Int.reduceGE, Int.reduceBEq, Int.reduceBNe, reduceCtorEq, Nat.reduceAdd, Ins.map, Fr.ev, argFr, argE, binEv, intEv, shEv, strEv, unEv, Fr.mark, evRes, tup, lenD, lookupD, loadD, partD, storeD, cellsD, cellOk, setAt, objNe, objSame, eqEv, readEv, lent_bool, lent_int, lent_float, lent_str, lent_agg, lent_tuple, lent_sl, lent_func, lent_iface, lent_nilif, lent_same, buildD, buildRows, rowsOf, elemsOf, normX, unnil, isNil, List.any_cons, List.any_nil, List.map_cons, List.map_nil, Bool.or_false, Bool.false_or, Bool.or_true, Bool.true_or, cond_true, cond_false]
  intro hlen
  rw [len_encs] at hlen
  have e5 : ((l.length : Int) % 18446744073709551616).toNat = l.length := by omega
  refine ⟨id, r4, _, leB l.length 1, ⟨_, 1, hlt _, rfl, by rw [len_encs, e5]; rfl⟩, a4.1, by simp only [List.length_append, hl, hu]; omega, fun r5 h5 b5 => ?_⟩
  have a5 := wrTo_trans hi0 a4 b5
  clear a4 b5
  have v5 := wrTo_keep a5 v3 n3 nr
  simp (config := {maxSteps := 1000000}) only [hw64, v5, hT_q, tb100n_e, tb40n_e, i_callNe, keptAt, Int.natCast_nonneg, Nat.le_refl, Int.le_refl, List.take_succ_cons, List.take_zero, decide_true, decide_false, Bool.and_false, Bool.false_and, zz, zzN, zzF, fltEv, isArithF, ↓reduceIte, Nat.reduceEqDiff, Nat.reduceBEq, Int.reduceLT, Int.reduceLE, Int.reduceToNat, Int.reduceEq, Int.reduceAdd, Int.reduceSub, Int.reduceMul, Int.reduceNeg, Nat.reduceMul, Nat.reduceSub, Nat.reduceLeDiff, Nat.reduceLT, Int.reduceGT, Int.reduceGE, Int.reduceBEq, Int.reduceBNe, reduceCtorEq, Nat.reduceAdd, Ins.map, Fr.ev, argFr, argE, binEv, intEv, shEv, strEv, unEv, Fr.mark, evRes, tup, lenD, lookupD, loadD, partD, storeD, cellsD, cellOk, setAt, objNe, objSame, eqEv, readEv, lent_bool, lent_int, lent_float, lent_str, lent_agg, lent_tuple, lent_sl, lent_func, lent_iface, lent_nilif, lent_same, buildD, buildRows, rowsOf, elemsOf, normX, unnil, isNil, List.any_cons, List.any_nil, List.map_cons, List.map_nil, Bool.or_false, Bool.false_or, Bool.or_true, Bool.true_or, cond_true, cond_false]
  intro _
  generalize hacc : uB k 1 ++ uB t 1 ++ (leB x.length 4 ++ x) ++ uB m 8 ++ leB l.length 1 = acc at *
  have lacc : acc.length = 14 + x.length + 1 := by rw [← hacc]; simp only [List.length_append, hl, hu]; omega
  refine run_loop (X := Nat × Nat × AHeap) (fun z => [(0, .ptr id 1 0), (32, .sl (Nd.encs l)), (33, .int .i64 l.length), (34, .int .i64 z.1)])
    (fun z => z.2.2) (fun z => l.length - z.1) (fun z => z.1 ≤ l.length ∧ wrTo h0 z.2.2 id r z.2.1 s (acc ++ encFs (l.take z.1))) (0, r5, h5) ⟨Nat.zero_le _, by rw [List.take_zero, encFs_nil, List.append_nil]; exact a5⟩ ?_ ?_ ?_
  · simp only [len_encs, i_callNe, keptAt, Int.natCast_nonneg, Nat.le_refl, Int.le_refl, List.take_succ_cons, List.take_zero, decide_true, decide_false, Bool.and_false, Bool.false_and, zz, zzN, zzF, fltEv, isArithF, ↓reduceIte, Nat.reduceEqDiff, Nat.reduceBEq, Int.reduceLT, Int.reduceLE, Int.reduceToNat, Int.reduceEq, Int.reduceAdd, Int.reduceSub, Int.reduceMul, Int.reduceNeg, Nat.reduceMul, Nat.reduceSub, Nat.reduceLeDiff, Nat.reduceLT, Int.reduceGT, Int.reduceGE, Int.reduceBEq, Int.reduceBNe, reduceCtorEq, Nat.reduceAdd, Ins.map, Fr.ev, argFr, argE, binEv, intEv, shEv, strEv, unEv, Fr.mark, evRes, tup, lenD, lookupD, loadD, partD, storeD, cellsD, cellOk, setAt, objNe, objSame, eqEv, readEv, lent_bool, lent_int, lent_float, lent_str, lent_agg, lent_tuple, lent_sl, lent_func, lent_iface, lent_nilif, lent_same, buildD, buildRows, rowsOf, elemsOf, normX, unnil, isNil, List.any_cons, List.any_nil, List.map_cons, List.map_nil, Bool.or_false, Bool.false_or, Bool.or_true, Bool.true_or, cond_true, cond_false]
  · exact AHeap.sub_refl _
  clear a5 v5 v4 v3' v2 v1
  rintro ⟨i, rr, hh⟩ Q ⟨j0, j1⟩ hQ
  simp only at j0 j1 hQ ⊢
  cases c : decide (i < l.length) with
  | false =>
    have e0 : i = l.length := by simp at c; omega
    have g : ((i : Int) < l.length) = False := eq_false (by omega)
    simp (config := {maxSteps := 1000000}) only [g, hT_q, tb100n_e, tb40n_e, i_callNe, keptAt, Int.natCast_nonneg, Nat.le_refl, Int.le_refl, List.take_succ_cons, List.take_zero, decide_true, decide_false, Bool.and_false, Bool.false_and, zz, zzN, zzF, fltEv, isArithF, ↓reduceIte, Nat.reduceEqDiff, Nat.reduceBEq, Int.reduceLT, Int.reduceLE, Int.reduceToNat, Int.reduceEq, Int.reduceAdd, Int.reduceSub, Int.reduceMul, Int.reduceNeg, Nat.reduceMul, Nat.reduceSub, Nat.reduceLeDiff, Nat.reduceLT, Int.reduceGT, Int.reduceGE, Int.reduceBEq, Int.reduceBNe, reduceCtorEq, Nat.reduceAdd, Ins.map, Fr.ev, argFr, argE, binEv, intEv, shEv, strEv, unEv, Fr.mark, evRes, tup, lenD, lookupD, loadD, partD, storeD, cellsD, cellOk, setAt, objNe, objSame, eqEv, readEv, lent_bool, lent_int, lent_float, lent_str, lent_agg, lent_tuple, lent_sl, lent_func, lent_iface, lent_nilif, lent_same, buildD, buildRows, rowsOf, elemsOf, normX, unnil, isNil, List.any_cons, List.any_nil, List.map_cons, List.map_nil, Bool.or_false, Bool.false_or, Bool.or_true, Bool.true_or, cond_true, cond_false]
    refine ⟨rr, hpre _ _ ?_⟩
    rw [e0, List.take_length] at j1
    exact j1
  | true =>
    have c : i < l.length := by simpa using c
    obtain ⟨y, hy⟩ : ∃ y, l[i]? = some y := ⟨_, List.getElem?_eq_getElem c⟩
    have g : ((i : Int) < l.length) = True := eq_true (by omega)
    have hym : y ∈ l := List.mem_of_getElem? hy
    have wi : IntKind.i64.wrap ((i : Int) + 1) = ((i + 1 : Nat) : Int) := wrap_succ (by omega)
    have hp := part_enc y
    have ha := askE_encs (K := fun d h => True) (h := hh) hy
    have hyF := encFs_take hy
    have hyl := encFs_le l (i + 1)
    have hyc := hcnt y hym
    have hac : ∀ (K : D → AHeap → Prop) (h : AHeap), askE 5 K h (Nd.encs l) (i : Int) = K (.eptr y.enc 0) h := fun K h => askE_encs hy
    clear ha
    rw [hyF, List.length_append] at hyl
    have hye : y.enc = Nd.enc y := rfl
    generalize hz : encF y = ye at *
    have hA : aPut f id [.ptr id 1 0, .agg y.enc] ye := ⟨y, hyc, rfl, hz.symm⟩
    clear hyc hcnt hz hym hy hye
    obtain ⟨yk, yt, yx, ym, yl⟩ := y
    rw [enc_mk] at *
    simp (config := {maxSteps := 1000000}) only [g, hac, hp, wi, hT_q, tb100n_e, tb40n_e, i_callNe, keptAt, Int.natCast_nonneg, Nat.le_refl, Int.le_refl, List.take_succ_cons, List.take_zero, decide_true, decide_false, Bool.and_false, Bool.false_and, zz, zzN, zzF, fltEv, isArithF, ↓reduceIte, Nat.reduceEqDiff, Nat.reduceBEq, Int.reduceLT, Int.reduceLE, Int.reduceToNat, Int.reduceEq, Int.reduceAdd, Int.reduceSub, Int.reduceMul, Int.reduceNeg, Nat.reduceMul, Nat.reduceSub, Nat.reduceLeDiff, Nat.reduceLT, Int.reduceGT, Int.reduceGE, Int.reduceBEq, Int.reduceBNe, reduceCtorEq, Nat.reduceAdd, Ins.map, Fr.ev, argFr, argE, binEv, intEv, shEv, strEv, unEv, Fr.mark, evRes, tup, lenD, lookupD, loadD, partD, storeD, cellsD, cellOk, setAt, objNe, objSame, eqEv, readEv, lent_bool, lent_int, lent_float, lent_str, lent_agg, lent_tuple, lent_sl, lent_func, lent_iface, lent_nilif, lent_same, buildD, buildRows, rowsOf, elemsOf, normX, unnil, isNil, List.any_cons, List.any_nil, List.map_cons, List.map_nil, Bool.or_false, Bool.false_or, Bool.or_true, Bool.true_or, cond_true, cond_false]
    intro i5 k5
    refine ⟨id, rr, _, ye, hA, wrAt_set k5 j1.1, by simp only [List.length_append, hl, hu] at hyl hb ⊢; omega, fun r6 h6 b6 => ?_⟩
    have a6 := wrTo_trans hi0 j1 (wrTo_pre k5 b6)
    simp (config := {maxSteps := 1000000}) only [wi, hT_q, tb100n_e, tb40n_e, i_callNe, keptAt, Int.natCast_nonneg, Nat.le_refl, Int.le_refl, List.take_succ_cons, List.take_zero, decide_true, decide_false, Bool.and_false, Bool.false_and, zz, zzN, zzF, fltEv, isArithF, ↓reduceIte, Nat.reduceEqDiff, Nat.reduceBEq, Int.reduceLT, Int.reduceLE, Int.reduceToNat, Int.reduceEq, Int.reduceAdd, Int.reduceSub, Int.reduceMul, Int.reduceNeg, Nat.reduceMul, Nat.reduceSub, Nat.reduceLeDiff, Nat.reduceLT, Int.reduceGT, Int.reduceGE, Int.reduceBEq, Int.reduceBNe, reduceCtorEq, Nat.reduceAdd, Ins.map, Fr.ev, argFr, argE, binEv, intEv, shEv, strEv, unEv, Fr.mark, evRes, tup, lenD, lookupD, loadD, partD, storeD, cellsD, cellOk, setAt, objNe, objSame, eqEv, readEv, lent_bool, lent_int, lent_float, lent_str, lent_agg, lent_tuple, lent_sl, lent_func, lent_iface, lent_nilif, lent_same, buildD, buildRows, rowsOf, elemsOf, normX, unnil, isNil, List.any_cons, List.any_nil, List.map_cons, List.map_nil, Bool.or_false, Bool.false_or, Bool.or_true, Bool.true_or, cond_true, cond_false]
    refine hQ (i + 1, r6, h6) _ _ ⟨c, ?_⟩ (by simp only [wi, i_callNe, keptAt, Int.natCast_nonneg, Nat.le_refl, Int.le_refl, List.take_succ_cons, List.take_zero, decide_true, decide_false, Bool.and_false, Bool.false_and, zz, zzN, zzF, fltEv, isArithF, ↓reduceIte, Nat.reduceEqDiff, Nat.reduceBEq, Int.reduceLT, Int.reduceLE, Int.reduceToNat, Int.reduceEq, Int.reduceAdd, Int.reduceSub, Int.reduceMul, Int.reduceNeg, Nat.reduceMul, Nat.reduceSub, Nat.reduceLeDiff, Nat.reduceLT, Int.reduceGT, Int.reduceGE, Int.reduceBEq, Int.reduceBNe, reduceCtorEq, Nat.reduceAdd, Ins.map, Fr.ev, argFr, argE, binEv, intEv, shEv, strEv, unEv, Fr.mark, evRes, tup, lenD, lookupD, loadD, partD, storeD, cellsD, cellOk, setAt, objNe, objSame, eqEv, readEv, lent_bool, lent_int, lent_float, lent_str, lent_agg, lent_tuple, lent_sl, lent_func, lent_iface, lent_nilif, lent_same, buildD, buildRows, rowsOf, elemsOf, normX, unnil, isNil, List.any_cons, List.any_nil, List.map_cons, List.map_nil, Bool.or_false, Bool.false_or, Bool.or_true, Bool.true_or, cond_true, cond_false]) (AHeap.sub_refl _) (by simp only; omega)
    rw [hyF, ← List.append_assoc]
    exact a6
theorem tbP_ok : ∀ f, (tb40n.addW 41 (c41n f) (c41n_mono f)).ok Tryd.prog
  | 0 => Tab.addW_ok tb40n_ok (fun args h K c => by
    obtain ⟨id, r, s, t, ⟨n, hn, _⟩, _⟩ := c
    omega)
  | f + 1 => Tab.addW_ok tb40n_ok (wrC_ok fun id r s t args h e a b => by
    obtain ⟨n, hn, rfl, rfl⟩ := e
    exact put_c f (tbP_ok f) id r s n hn h a b)
def aPutT (id : Nat) (args : List D) (t : List UInt8) : Prop := ∃ n : Nd, args = [.ptr id 1 0, .agg n.enc] ∧ t = encF n
def c41t := wrC aPutT
theorem c41t_mono : type_of% (@wrC_mono aPutT) := @wrC_mono aPutT
theorem c41t_ok (args : List D) (h : AHeap) (K : D → AHeap → Prop) (c : c41t args h K) : ACalls Tryd.prog 41 args h fun o h' => ∃ d, o = .ret d ∧ K d h' :=
  wrC_ok (fun id r s t args h e a b => by obtain ⟨n, rfl, rfl⟩ := e; exact put_c n.cnt (tbP_ok n.cnt) id r s n (Nat.lt_succ_self _) h a b) args h K c
def tb41n : Tab := tb40n.addW 41 c41t c41t_mono
theorem tb41n_q : tb41n.q = tb40n.q := rfl
theorem tb41n_a : tb41n.a = tb40n.a := rfl
theorem tb41n_c (g : FuncId) (args : List D) (h : AHeap) (K E : D → AHeap → Prop) : tb41n.c g args h K E = if g = 41 then c41t args h K else tb40n.c g args h K E := rfl
theorem tb41n_ok : tb41n.ok Tryd.prog := Tab.addW_ok tb40n_ok c41t_ok
theorem tb41n_e : type_of% (And.intro (And.intro @tb41n_q (And.intro @tb41n_a @tb41n_c)) @tb40n_e) := (And.intro (And.intro @tb41n_q (And.intro @tb41n_a @tb41n_c)) @tb40n_e)

theorem encode_c (n : Nd) (hn : (encF n).length ≤ 140737488355328) : PCall Tryd.prog 13 [.agg n.enc] (.str (encF n)) := by
  refine PCall.run tb41n_ok st13n (by simp) fun E => ?_
  generalize hz : encF n = ye at *
  have hA : ∀ id, aPutT id [.ptr id 1 0, .agg n.enc] ye := fun id => ⟨n, rfl, hz.symm⟩
  have hp := part_enc n
  clear hz
  obtain ⟨k, t, x, m, l⟩ := n
  rw [enc_mk] at *
  simp (config := {maxSteps := 1000000}) only [s13n, hp, tb100n_e, tb41n_e, i_callNe, keptAt, Int.natCast_nonneg, Nat.le_refl, Int.le_refl, List.take_succ_cons, List.take_zero, decide_true, decide_false, Bool.and_false, Bool.false_and, zz, zzN, zzF, fltEv, isArithF, ↓reduceIte, Nat.reduceEqDiff, Nat.reduceBEq, Int.reduceLT, Int.reduceLE, Int.reduceToNat, Int.reduceEq, Int.reduceAdd, Int.reduceSub, Int.reduceMul, Int.reduceNeg, Nat.reduceMul, Nat.reduceSub, Nat.reduceLeDiff, Nat.reduceLT, Int.reduceGT, Int.reduceGE, Int.reduceBEq, Int.reduceBNe, reduceCtorEq, Nat.reduceAdd, Ins.map, Fr.ev, argFr, argE, binEv, intEv, shEv, strEv, unEv, Fr.mark, evRes, tup, lenD, lookupD, loadD, partD, storeD, cellsD, cellOk, setAt, objNe, objSame, eqEv, readEv, lent_bool, lent_int, lent_float, lent_str, lent_agg, lent_tuple, lent_sl, lent_func, lent_iface, lent_nilif, lent_same, buildD, buildRows, rowsOf, elemsOf, normX, unnil, isNil, List.any_cons, List.any_nil, List.map_cons, List.map_nil, Bool.or_false, Bool.false_or, Bool.or_true, Bool.true_or, cond_true, cond_false]
  intro i j n1 n2
  simp (config := {maxSteps := 1000000}) only [n1, n2, tb100n_e, tb41n_e, i_callNe, keptAt, Int.natCast_nonneg, Nat.le_refl, Int.le_refl, List.take_succ_cons, List.take_zero, decide_true, decide_false, Bool.and_false, Bool.false_and, zz, zzN, zzF, fltEv, isArithF, ↓reduceIte, Nat.reduceEqDiff, Nat.reduceBEq, Int.reduceLT, Int.reduceLE, Int.reduceToNat, Int.reduceEq, Int.reduceAdd, Int.reduceSub, Int.reduceMul, Int.reduceNeg, Nat.reduceMul, Nat.reduceSub, Nat.reduceLeDiff, Nat.reduceLT, Int.reduceGT, Int.reduceGE, Int.reduceBEq, Int.reduceBNe, reduceCtorEq, Nat.reduceAdd, Ins.map, Fr.ev, argFr, argE, binEv, intEv, shEv, strEv, unEv, Fr.mark, evRes, tup, lenD, lookupD, loadD, partD, storeD, cellsD, cellOk, setAt, objNe, objSame, eqEv, readEv, lent_bool, lent_int, lent_float, lent_str, lent_agg, lent_tuple, lent_sl, lent_func, lent_iface, lent_nilif, lent_same, buildD, buildRows, rowsOf, elemsOf, normX, unnil, isNil, List.any_cons, List.any_nil, List.map_cons, List.map_nil, Bool.or_false, Bool.false_or, Bool.or_true, Bool.true_or, cond_true, cond_false]
  refine ⟨j, 0, [], ye, hA j, ⟨by simp [AHeap.set_f, ownD], fun h => absurd rfl h⟩, by simpa using hn, fun r' h' k => ?_⟩
  simp (config := {maxSteps := 1000000}) only [tb100n_e, tb41n_e, i_callNe, keptAt, Int.natCast_nonneg, Nat.le_refl, Int.le_refl, List.take_succ_cons, List.take_zero, decide_true, decide_false, Bool.and_false, Bool.false_and, zz, zzN, zzF, fltEv, isArithF, ↓reduceIte, Nat.reduceEqDiff, Nat.reduceBEq, Int.reduceLT, Int.reduceLE, Int.reduceToNat, Int.reduceEq, Int.reduceAdd, Int.reduceSub, Int.reduceMul, Int.reduceNeg, Nat.reduceMul, Nat.reduceSub, Nat.reduceLeDiff, Nat.reduceLT, Int.reduceGT, Int.reduceGE, Int.reduceBEq, Int.reduceBNe, reduceCtorEq, Nat.reduceAdd, Ins.map, Fr.ev, argFr, argE, binEv, intEv, shEv, strEv, unEv, Fr.mark, evRes, tup, lenD, lookupD, loadD, partD, storeD, cellsD, cellOk, setAt, objNe, objSame, eqEv, readEv, lent_bool, lent_int, lent_float, lent_str, lent_agg, lent_tuple, lent_sl, lent_func, lent_iface, lent_nilif, lent_same, buildD, buildRows, rowsOf, elemsOf, normX, unnil, isNil, List.any_cons, List.any_nil, List.map_cons, List.map_nil, Bool.or_false, Bool.false_or, Bool.or_true, Bool.true_or, cond_true, cond_false]
  refine ⟨j, r', ye, rfl, k.1, fun h2 => ?_⟩
  simp (config := {maxSteps := 1000000}) only [tb100n_e, tb41n_e, i_callNe, keptAt, Int.natCast_nonneg, Nat.le_refl, Int.le_refl, List.take_succ_cons, List.take_zero, decide_true, decide_false, Bool.and_false, Bool.false_and, zz, zzN, zzF, fltEv, isArithF, ↓reduceIte, Nat.reduceEqDiff, Nat.reduceBEq, Int.reduceLT, Int.reduceLE, Int.reduceToNat, Int.reduceEq, Int.reduceAdd, Int.reduceSub, Int.reduceMul, Int.reduceNeg, Nat.reduceMul, Nat.reduceSub, Nat.reduceLeDiff, Nat.reduceLT, Int.reduceGT, Int.reduceGE, Int.reduceBEq, Int.reduceBNe, reduceCtorEq, Nat.reduceAdd, Ins.map, Fr.ev, argFr, argE, binEv, intEv, shEv, strEv, unEv, Fr.mark, evRes, tup, lenD, lookupD, loadD, partD, storeD, cellsD, cellOk, setAt, objNe, objSame, eqEv, readEv, lent_bool, lent_int, lent_float, lent_str, lent_agg, lent_tuple, lent_sl, lent_func, lent_iface, lent_nilif, lent_same, buildD, buildRows, rowsOf, elemsOf, normX, unnil, isNil, List.any_cons, List.any_nil, List.map_cons, List.map_nil, Bool.or_false, Bool.false_or, Bool.or_true, Bool.true_or, cond_true, cond_false]
noncomputable def q13n : List D → Option D
  | [.agg ds] => match decN ds with
    | some n => if (encF n).length ≤ 140737488355328 then some (.str (encF n)) else none
    | none => none
  | _ => none
theorem q13n_ok (args : List D) (d : D) (h : q13n args = some d) : PCall Tryd.prog 13 args d := by
  unfold q13n at h
  split at h
  · split at h
    · rename_i e
      split at h
      · cases h
        rw [decN_some e]
        exact encode_c _ (by assumption)
      · cases h
    · cases h
  · cases h
end Go.Proofs.YthpgepillaeldaaDoor.Zz
