/- Contracts: trees as the document has them; their bytes. -/
import Derived.Test.YthpgepillaeldaaDoorZA6
import Derived.Test.YthpgepillaeldaaDoorZX
import Derived.Below
import Derived.ChangeSlices
import Derived.ChangeSame
import Derived.Deep.Strs
import Derived.LaidLaws
import Derived.Deep.DeepLaidRun
import Derived.Handed
import Derived.HandedShaped
import Derived.OpenShut
import Derived.MakeChecks
import Derived.Shelf.Vars
set_option linter.unnecessarySimpa false
namespace Go.Proofs.YthpgepillaeldaaDoor.Zz
noncomputable section
set_option linter.unusedVariables false
set_option linter.unusedSimpArgs false
set_option maxRecDepth 20000
def p17n : Plan := ⟨⟨[], [], [(5, 5)], [], [], []⟩, [(5, [0, 1, 2, 3, 4, 5, 6, 7, 8, 9, 10, 11])], [], false⟩
/-- cupel/cupellaw10.Ref (1 parameters, 0 captured) -/
def s17n : Stm :=
  .seq (.ops [⟨.box (.t 0), (some 1), none, false⟩,
     ⟨.alloc [(.int .i64 0), (.int .i64 0), (.str []), (.int .i64 0), .nilsl], (some 2), none, false⟩])
  (.seq (.ops [⟨.fieldAddr 0 (.t 1), (some 5), none, true⟩,
     ⟨.load none (.t 5), (some 6), none, false⟩,
     ⟨.fieldAddr 1 (.t 1), (some 7), none, true⟩,
     ⟨.load none (.t 7), (some 8), none, false⟩,
     ⟨.fieldAddr 2 (.t 1), (some 9), none, true⟩,
     ⟨.load none (.t 9), (some 10), none, false⟩,
     ⟨.fieldAddr 3 (.t 1), (some 11), none, true⟩,
     ⟨.load none (.t 11), (some 12), none, false⟩,
     ⟨.build [(.int .i64 0), (.int .i64 0), (.str []), (.int .i64 0), .nilsl] [(0, 1, (.t 6)), (1, 1, (.t 8)), (2, 1, (.t 10)), (3, 1, (.t 12))], (some 13), none, true⟩,
     ⟨.alloc [(.int .i64 0), (.int .i64 0), (.str []), (.int .i64 0), .nilsl], (some 3), none, false⟩,
     ⟨.store 5 (.t 3) (.t 13), none, none, false⟩])
  (.seq (.seq (.ops [⟨.mov (.c (.int .i64 0)), (some 4), none, true⟩])
   (.block 0 (.loop (.seq (.seq (.ops [⟨.mov (.t 4), (some 14), none, true⟩,
         ⟨.fieldAddr 4 (.t 1), (some 15), none, true⟩,
         ⟨.load none (.t 15), (some 16), none, false⟩,
         ⟨.len .sl (.t 16), (some 17), none, false⟩,
         ⟨.bin .lss (.t 14) (.t 17), (some 18), none, true⟩])
      (.cond (.t 18)
       (.skip)
       (.exit 0)))
     (.seq (.block 1 (.opsD [⟨.fieldAddr 4 (.t 3), (some 21), none, true⟩,
         ⟨.load none (.t 21), (some 22), none, false⟩,
         ⟨.fieldAddr 4 (.t 1), (some 23), none, true⟩,
         ⟨.load none (.t 23), (some 24), none, false⟩,
         ⟨.mov (.t 4), (some 25), none, true⟩,
         ⟨.indexAddrS 5 (.t 24) (.t 25), (some 26), none, false⟩,
         ⟨.load (some 5) (.t 26), (some 27), none, false⟩,
         ⟨.qcall (.f 17) [(.t 27)], (some 28), none, false⟩,
         ⟨.buildSlice 5 [(.int .i64 0), (.int .i64 0), (.str []), (.int .i64 0), .nilsl] 1 [(0, (.t 28))] false, (some 29), none, true⟩,
         ⟨.append 5 64 false (.t 22) (.t 29), (some 30), none, false⟩,
         ⟨.fieldAddr 4 (.t 3), (some 31), none, true⟩,
         ⟨.store 1 (.t 31) (.t 30), none, none, false⟩]))
     (.ops [⟨.mov (.t 4), (some 19), none, true⟩,
       ⟨.bin .add (.t 19) (.c (.int .i64 1)), (some 20), none, true⟩,
       ⟨.mov (.t 20), (some 4), none, true⟩]))))))
  (.seq (.ops [⟨.load (some 5) (.t 3), (some 32), none, false⟩,
     ⟨.store 5 (.t 2) (.t 32), none, none, false⟩])
  (.ret))))
theorem st17n : stmOf Tryd.prog 17 p17n = some (s17n, [.cell 2 (some 5)], 33) := by kernel_rfl

def p44n : Plan := ⟨⟨[], [], [], [], [], []⟩, [], [], false⟩
/-- cupel/cupelref02.Text (1 parameters, 0 captured) -/
def s44n : Stm :=
  .seq (.ops [⟨.mov (.c (.str [])), (some 2), none, true⟩])
  (.seq (.ops [⟨.mov (.t 0), (some 3), none, true⟩,
     ⟨.len .str (.t 3), (some 4), none, false⟩,
     ⟨.conv (.intInt .u64) (.t 4), (some 5), none, true⟩,
     ⟨.qcall (.f 26) [(.t 5), (.c (.int .i64 4))], (some 6), none, false⟩,
     ⟨.mov (.t 0), (some 7), none, true⟩,
     ⟨.bin .add (.t 6) (.t 7), (some 8), none, true⟩,
     ⟨.mov (.t 8), (some 2), none, true⟩])
  (.ret))
theorem st44n : stmOf Tryd.prog 44 p44n = some (s44n, [.tmp 2], 9) := by kernel_rfl

def p16n : Plan := ⟨⟨[], [], [], [], [], []⟩, [(1, [0, 1, 2, 4, 5, 6, 9, 10, 13, 14, 15, 18, 19, 20, 21, 3, 7, 8, 11, 12, 16, 17, 22, 23, 24])], [], false⟩
/-- cupel/cupelref10.Bytes (1 parameters, 0 captured) -/
def s16n : Stm :=
  .seq (.ops [⟨.box (.t 0), (some 1), none, false⟩,
     ⟨.mov (.c (.str [])), (some 2), none, true⟩])
  (.seq (.opsD [⟨.fieldAddr 0 (.t 1), (some 5), none, true⟩,
     ⟨.load none (.t 5), (some 6), none, false⟩,
     ⟨.conv (.intInt .u64) (.t 6), (some 7), none, true⟩,
     ⟨.fieldAddr 1 (.t 1), (some 9), none, true⟩,
     ⟨.load none (.t 9), (some 10), none, false⟩,
     ⟨.conv (.intInt .u64) (.t 10), (some 11), none, true⟩,
     ⟨.fieldAddr 2 (.t 1), (some 14), none, true⟩,
     ⟨.load none (.t 14), (some 15), none, false⟩,
     ⟨.fieldAddr 3 (.t 1), (some 18), none, true⟩,
     ⟨.load none (.t 18), (some 19), none, false⟩,
     ⟨.conv (.intInt .u64) (.t 19), (some 20), none, true⟩,
     ⟨.fieldAddr 4 (.t 1), (some 23), none, true⟩,
     ⟨.load none (.t 23), (some 24), none, false⟩,
     ⟨.len0 .sl (.t 24), (some 25), none, true⟩,
     ⟨.conv (.intInt .u64) (.t 25), (some 26), none, true⟩,
     ⟨.qcall (.f 26) [(.t 7), (.c (.int .i64 1))], (some 8), none, false⟩,
     ⟨.qcall (.f 26) [(.t 11), (.c (.int .i64 1))], (some 12), none, false⟩,
     ⟨.bin .add (.t 8) (.t 12), (some 13), none, true⟩,
     ⟨.qcall (.f 44) [(.t 15)], (some 16), none, false⟩,
     ⟨.bin .add (.t 13) (.t 16), (some 17), none, true⟩,
     ⟨.qcall (.f 26) [(.t 20), (.c (.int .i64 8))], (some 21), none, false⟩,
     ⟨.bin .add (.t 17) (.t 21), (some 22), none, true⟩,
     ⟨.qcall (.f 26) [(.t 26), (.c (.int .i64 1))], (some 27), none, false⟩,
     ⟨.bin .add (.t 22) (.t 27), (some 28), none, true⟩,
     ⟨.mov (.t 28), (some 3), none, true⟩])
  (.seq (.seq (.ops [⟨.mov (.c (.int .i64 0)), (some 4), none, true⟩])
   (.block 0 (.loop (.seq (.seq (.ops [⟨.mov (.t 4), (some 29), none, true⟩,
         ⟨.fieldAddr 4 (.t 1), (some 30), none, true⟩,
         ⟨.load none (.t 30), (some 31), none, false⟩,
         ⟨.len .sl (.t 31), (some 32), none, false⟩,
         ⟨.bin .lss (.t 29) (.t 32), (some 33), none, true⟩])
      (.cond (.t 33)
       (.skip)
       (.exit 0)))
     (.seq (.block 1 (.ops [⟨.mov (.t 3), (some 36), none, true⟩,
         ⟨.fieldAddr 4 (.t 1), (some 37), none, true⟩,
         ⟨.load none (.t 37), (some 38), none, false⟩,
         ⟨.mov (.t 4), (some 39), none, true⟩,
         ⟨.indexAddrS 5 (.t 38) (.t 39), (some 40), none, false⟩,
         ⟨.load (some 5) (.t 40), (some 41), none, false⟩,
         ⟨.qcall (.f 16) [(.t 41)], (some 42), none, false⟩,
         ⟨.bin .add (.t 36) (.t 42), (some 43), none, true⟩,
         ⟨.mov (.t 43), (some 3), none, true⟩]))
     (.ops [⟨.mov (.t 4), (some 34), none, true⟩,
       ⟨.bin .add (.t 34) (.c (.int .i64 1)), (some 35), none, true⟩,
       ⟨.mov (.t 35), (some 4), none, true⟩]))))))
  (.seq (.ops [⟨.mov (.t 3), (some 44), none, true⟩,
     ⟨.mov (.t 44), (some 2), none, true⟩])
  (.ret))))
theorem st16n : stmOf Tryd.prog 16 p16n = some (s16n, [.tmp 2], 45) := by kernel_rfl

def qN (P : Nd → Bool) (g : Nd → D) : List D → Option D
  | [.agg ds] => match decN ds with
    | some n => if P n = true then some (g n) else none
    | none => none
  | _ => none
theorem qN_eq {P : Nd → Bool} {g : Nd → D} {n : Nd} (h : P n = true) : qN P g [.agg n.enc] = some (g n) := by
  simp only [qN, decN_enc]; rw [if_pos h]
theorem qN_ok {f : FuncId} {P : Nd → Bool} {g : Nd → D} (hP : ∀ n, P n = true → PCall Tryd.prog f [.agg n.enc] (g n)) (args : List D) (d : D) (h : qN P g args = some d) : PCall Tryd.prog f args d := by
  unfold qN at h
  split at h
  · split at h
    · rename_i e
      split at h
      · cases h
        rw [decN_some e]
        exact hP _ (by assumption)
      · cases h
    · cases h
  · cases h
/-- By the size of trees: a contract of a function that calls itself. -/
theorem byCnt {f : FuncId} {g : Nd → D} {q : Nd → Bool} {T0 : Tab} (h0 : T0.ok Tryd.prog) {M : Nat} (hs : ∀ k, k < M → (T0.addQ f (qN (fun n => decide (n.cnt < k) && q n) g)).ok Tryd.prog → ∀ n : Nd, n.cnt < k + 1 → q n = true → PCall Tryd.prog f [.agg n.enc] (g n)) :
    ∀ k, k ≤ M → ∀ n : Nd, n.cnt < k → q n = true → PCall Tryd.prog f [.agg n.enc] (g n)
  | 0, _, n, h, _ => by omega
  | k + 1, hk, n, h, hq => hs k (by omega) (Tab.addQ_ok h0 (qN_ok fun n h => by
      simp only [Bool.and_eq_true, decide_eq_true_eq] at h
      exact byCnt h0 hs k (by omega) n h.1 h.2)) n h hq
theorem app_own2 {sz b r n : Nat} {xs : List (List D)} {y : List D} {h : AHeap} {K : D → AHeap → Prop} (hxn : xs.length = n) (hr : n ≠ 0 → h.f r = some (.row sz (n + 2) xs false)) (hy : y.length = sz ∧ y.all cellOk = true) (hb : 0 < b) (hn : (n + 1) * b ≤ 140737488355328)
    (hk : ∀ r', (n = 0 → h.f r' = none) → (n ≠ 0 → r' = r) → K (.row r' (n + 1 + 2) 0 (n + 1)) (h.set r' (.row sz (n + 1 + 2) (xs ++ [y]) false))) : appK sz b (ownD r n) h K (some [y]) := by
  subst hxn
  refine app_own (fun h0 => hr (fun e => h0 (List.length_eq_zero_iff.1 e))) hy hb hn fun r' a1 a2 => ?_
  rw [ownD_pos (by omega)]
  exact hk r' (fun e => a1 (List.length_eq_zero_iff.1 e)) (fun e => a2 (fun e' => e (by rw [e']; rfl)))
def qT (n : Nd) : Bool := true
def ownAt (h : AHeap) (r sz : Nat) (xs : List (List D)) : Prop := xs ≠ [] → h.f r = some (.row sz (xs.length + 2) xs false)
set_option maxHeartbeats 1000000 in
theorem ref_step (f : Nat) (hf : f < 1000000000) (hT : (Tab.zero.addQ 17 (qN (fun n => decide (n.cnt < f) && qT n) fun n => .agg n.enc)).ok Tryd.prog) (n : Nd) (hn : n.cnt < f + 1) : PCall Tryd.prog 17 [.agg n.enc] (.agg n.enc) := by
  refine PCall.run hT st17n (by simp) fun E => ?_
  have hT_q : ∀ g args, (Tab.zero.addQ 17 (qN (fun n => decide (n.cnt < f) && qT n) fun n => .agg n.enc)).q g args = if g = 17 then qN (fun n => decide (n.cnt < f) && qT n) (fun n => .agg n.enc) args else Tab.zero.q g args := fun g args => rfl
  have hq : ∀ y : Nd, y.cnt < f → qN (fun n => decide (n.cnt < f) && qT n) (fun n => .agg n.enc) [.agg y.enc] = some (.agg y.enc) := fun y hy => qN_eq (by simpa [qT] using hy)
  generalize Tab.zero.addQ 17 (qN (fun n => decide (n.cnt < f) && qT n) fun n => .agg n.enc) = TT at hT_q ⊢
  obtain ⟨k, t, x, m, l⟩ := n
  have hcnt : ∀ y ∈ l, y.cnt < f := fun y hy => by have := cnt_kid (k := k) (t := t) (s := x) (n := m) hy; omega
  have hln : l.length ≤ f := by rw [cnt_mk] at hn; have := cnts_len l; omega
  rw [enc_mk]
  simp (config := {maxSteps := 1000000}) only [s17n, hT_q, i_callNe, Int.natCast_nonneg, Nat.le_refl, Int.le_refl, List.take_succ_cons, List.take_zero, decide_true, decide_false, Bool.and_false, Bool.false_and, zz, zzN, zzF, zzD, zzM, cond_true, cond_false, ↓reduceIte, Nat.reduceEqDiff, Nat.reduceBEq, Int.reduceLT, Int.reduceLE, Int.reduceToNat, Int.reduceEq, Int.reduceAdd, Int.reduceSub, Int.reduceMul, Int.reduceNeg, Nat.reduceMul, Nat.reduceSub, Nat.reduceLeDiff, Nat.reduceLT, Int.reduceGT, Int.reduceGE, Int.reduceBEq, Int.reduceBNe, reduceCtorEq, Nat.reduceAdd]
  intro i1 i2 n1 n2
  simp (config := {maxSteps := 1000000}) only [n1, n2, hT_q, i_callNe, Int.natCast_nonneg, Nat.le_refl, Int.le_refl, List.take_succ_cons, List.take_zero, decide_true, decide_false, Bool.and_false, Bool.false_and, zz, zzN, zzF, zzD, zzM, cond_true, cond_false, ↓reduceIte, Nat.reduceEqDiff, Nat.reduceBEq, Int.reduceLT, Int.reduceLE, Int.reduceToNat, Int.reduceEq, Int.reduceAdd, Int.reduceSub, Int.reduceMul, Int.reduceNeg, Nat.reduceMul, Nat.reduceSub, Nat.reduceLeDiff, Nat.reduceLT, Int.reduceGT, Int.reduceGE, Int.reduceBEq, Int.reduceBNe, reduceCtorEq, Nat.reduceAdd]
  intro i3 m1 m2 m3 m4
  refine run_loop (X := Nat × Nat × AHeap) (fun z => [(1, .ptr i1 1 0), (2, .ptr i2 1 0), (3, .ptr i3 1 0), (4, .int .i64 z.1)]) (fun z => z.2.2) (fun z => l.length - z.1)
    (fun z => z.1 ≤ l.length ∧ z.2.2.f i1 = some (.cells [.int .i64 k, .int .i64 t, .str x, .int .i64 m, .sl (Nd.encs l)]) ∧ z.2.2.f i2 = some (.cells [.int .i64 0, .int .i64 0, .str [], .int .i64 0, .nilsl]) ∧
      z.2.2.f i3 = some (.cells [.int .i64 k, .int .i64 t, .str x, .int .i64 m, ownD z.2.1 z.1]) ∧ (z.1 ≠ 0 → z.2.1 ≠ i1 ∧ z.2.1 ≠ i2 ∧ z.2.1 ≠ i3 ∧ z.2.2.f z.2.1 = some (.row 5 (z.1 + 2) (Nd.encs (l.take z.1)) false))) (0, 0, _) ⟨Nat.zero_le _, ?_, ?_, ?_, fun h => absurd rfl h⟩ ?_ (AHeap.sub_refl _) ?_
  · simp only [AHeap.set_f, n1, n2, m1, m2, m3, m4, ↓reduceIte]
  · simp only [AHeap.set_f, n1, n2, m1, m2, m3, m4, ↓reduceIte]
  · simp only [AHeap.set_f, n1, n2, m1, m2, m3, m4, ↓reduceIte, ownD_zero]
  · simp only [i_callNe, Int.natCast_nonneg, Nat.le_refl, Int.le_refl, List.take_succ_cons, List.take_zero, decide_true, decide_false, Bool.and_false, Bool.false_and, zz, zzN, zzF, zzD, zzM, cond_true, cond_false, ↓reduceIte, Nat.reduceEqDiff, Nat.reduceBEq, Int.reduceLT, Int.reduceLE, Int.reduceToNat, Int.reduceEq, Int.reduceAdd, Int.reduceSub, Int.reduceMul, Int.reduceNeg, Nat.reduceMul, Nat.reduceSub, Nat.reduceLeDiff, Nat.reduceLT, Int.reduceGT, Int.reduceGE, Int.reduceBEq, Int.reduceBNe, reduceCtorEq, Nat.reduceAdd]
  rintro ⟨i, r, hh⟩ Q ⟨j0, v1, v2, v3, vr⟩ hQ
  simp only at j0 v1 v2 v3 vr hQ ⊢
  cases c : decide (i < l.length) with
  | false =>
    have e0 : i = l.length := by simp at c; omega
    have g : ((i : Int) < (l.length : Int)) = False := eq_false (by omega)
    by_cases h0 : l = []
    · subst h0
      simp only [List.length_nil] at e0
      subst e0
      rw [ownD_zero] at v3
      simp (config := {maxSteps := 1000000}) only [g, v1, v2, v3, n1, n2, m1, m2, m3, m4, encs_nil, len_encs, hT_q, i_callNe, Int.natCast_nonneg, Nat.le_refl, Int.le_refl, List.take_succ_cons, List.take_zero, decide_true, decide_false, Bool.and_false, Bool.false_and, zz, zzN, zzF, zzD, zzM, cond_true, cond_false, ↓reduceIte, Nat.reduceEqDiff, Nat.reduceBEq, Int.reduceLT, Int.reduceLE, Int.reduceToNat, Int.reduceEq, Int.reduceAdd, Int.reduceSub, Int.reduceMul, Int.reduceNeg, Nat.reduceMul, Nat.reduceSub, Nat.reduceLeDiff, Nat.reduceLT, Int.reduceGT, Int.reduceGE, Int.reduceBEq, Int.reduceBNe, reduceCtorEq, Nat.reduceAdd]
    · have h1 : l.length ≠ 0 := fun e => h0 (List.length_eq_zero_iff.1 e)
      subst e0
      obtain ⟨r1, r2, r3, v4⟩ := vr h1
      rw [ownD_pos h1] at v3
      have r1' : ¬ i1 = r := fun e => r1 e.symm
      have r2' : ¬ i2 = r := fun e => r2 e.symm
      have r3' : ¬ i3 = r := fun e => r3 e.symm
      rw [List.take_length] at v4
      simp (config := {maxSteps := 1000000}) only [g, v1, v2, v3, v4, n1, n2, m1, m2, m3, m4, r1, r2, r3, r1', r2', r3', len_encs, hT_q, i_callNe, Int.natCast_nonneg, Nat.le_refl, Int.le_refl, List.take_succ_cons, List.take_zero, decide_true, decide_false, Bool.and_false, Bool.false_and, zz, zzN, zzF, zzD, zzM, cond_true, cond_false, ↓reduceIte, Nat.reduceEqDiff, Nat.reduceBEq, Int.reduceLT, Int.reduceLE, Int.reduceToNat, Int.reduceEq, Int.reduceAdd, Int.reduceSub, Int.reduceMul, Int.reduceNeg, Nat.reduceMul, Nat.reduceSub, Nat.reduceLeDiff, Nat.reduceLT, Int.reduceGT, Int.reduceGE, Int.reduceBEq, Int.reduceBNe, reduceCtorEq, Nat.reduceAdd]
      exact fun _ => List.take_of_length_le (by rw [len_encs]; omega)
  | true =>
    have c : i < l.length := by simpa using c
    obtain ⟨y, hy⟩ : ∃ y, l[i]? = some y := ⟨_, List.getElem?_eq_getElem c⟩
    have g : ((i : Int) < (l.length : Int)) = True := eq_true (by omega)
    have hym : y ∈ l := List.mem_of_getElem? hy
    have wi : IntKind.i64.wrap ((i : Int) + 1) = ((i + 1 : Nat) : Int) := wrap_succ (by omega)
    have hp := part_enc y
    have hac : ∀ (K : D → AHeap → Prop) (h : AHeap), askE 5 K h (Nd.encs l) (i : Int) = K (.eptr y.enc 0) h := fun K h => askE_encs hy
    have hqy := hq y (hcnt y hym)
    have htk : Nd.encs (l.take (i + 1)) = Nd.encs (l.take i) ++ [y.enc] := by
      rw [List.take_add_one, hy, encs_snoc]; rfl
    have hy2 : y.enc.length = 5 ∧ y.enc.all cellOk = true := ⟨len_enc y, enc_ok y⟩
    have hxn : (Nd.encs (l.take i)).length = i := by rw [len_encs, List.length_take]; omega
    clear hy hym hq
    obtain ⟨yk, yt, yx, ym, yl⟩ := y
    rw [enc_mk] at *
    simp (config := {maxSteps := 1000000}) only [g, v1, v2, v3, hac, hp, wi, hqy, enc_unnil, len_encs, n1, n2, m1, m2, m3, m4, hT_q, i_callNe, Int.natCast_nonneg, Nat.le_refl, Int.le_refl, List.take_succ_cons, List.take_zero, decide_true, decide_false, Bool.and_false, Bool.false_and, zz, zzN, zzF, zzD, zzM, cond_true, cond_false, ↓reduceIte, Nat.reduceEqDiff, Nat.reduceBEq, Int.reduceLT, Int.reduceLE, Int.reduceToNat, Int.reduceEq, Int.reduceAdd, Int.reduceSub, Int.reduceMul, Int.reduceNeg, Nat.reduceMul, Nat.reduceSub, Nat.reduceLeDiff, Nat.reduceLT, Int.reduceGT, Int.reduceGE, Int.reduceBEq, Int.reduceBNe, reduceCtorEq, Nat.reduceAdd]
    intro _
    refine app_own2 (b := 64) hxn (fun h0 => (vr h0).2.2.2) hy2 (by omega) (by omega) fun r' a1 a2 => ?_
    have a3 : r' ≠ i1 ∧ r' ≠ i2 ∧ r' ≠ i3 := by
      by_cases h0 : i = 0
      · have := a1 h0
        exact ⟨fun e => (by subst e; rw [v1] at this; cases this), fun e => (by subst e; rw [v2] at this; cases this), fun e => (by subst e; rw [v3] at this; cases this)⟩
      · rw [a2 h0]; exact ⟨(vr h0).1, (vr h0).2.1, (vr h0).2.2.1⟩
    obtain ⟨r1, r2, r3⟩ := a3
    have r1' : ¬ i1 = r' := fun e => r1 e.symm
    have r2' : ¬ i2 = r' := fun e => r2 e.symm
    have r3' : ¬ i3 = r' := fun e => r3 e.symm
    simp (config := {maxSteps := 1000000}) only [v1, v2, v3, wi, r1, r2, r3, r1', r2', r3', n1, n2, m1, m2, m3, m4, hT_q, i_callNe, Int.natCast_nonneg, Nat.le_refl, Int.le_refl, List.take_succ_cons, List.take_zero, decide_true, decide_false, Bool.and_false, Bool.false_and, zz, zzN, zzF, zzD, zzM, cond_true, cond_false, ↓reduceIte, Nat.reduceEqDiff, Nat.reduceBEq, Int.reduceLT, Int.reduceLE, Int.reduceToNat, Int.reduceEq, Int.reduceAdd, Int.reduceSub, Int.reduceMul, Int.reduceNeg, Nat.reduceMul, Nat.reduceSub, Nat.reduceLeDiff, Nat.reduceLT, Int.reduceGT, Int.reduceGE, Int.reduceBEq, Int.reduceBNe, reduceCtorEq, Nat.reduceAdd]
    refine hQ (i + 1, r', _) _ _ ⟨c, ?_, ?_, ?_, fun _ => ⟨r1, r2, r3, ?_⟩⟩ (by simp only [i_callNe, Int.natCast_nonneg, Nat.le_refl, Int.le_refl, List.take_succ_cons, List.take_zero, decide_true, decide_false, Bool.and_false, Bool.false_and, zz, zzN, zzF, zzD, zzM, cond_true, cond_false, ↓reduceIte, Nat.reduceEqDiff, Nat.reduceBEq, Int.reduceLT, Int.reduceLE, Int.reduceToNat, Int.reduceEq, Int.reduceAdd, Int.reduceSub, Int.reduceMul, Int.reduceNeg, Nat.reduceMul, Nat.reduceSub, Nat.reduceLeDiff, Nat.reduceLT, Int.reduceGT, Int.reduceGE, Int.reduceBEq, Int.reduceBNe, reduceCtorEq, Nat.reduceAdd]) (AHeap.sub_refl _) (by simp only; omega)
    · simp only [AHeap.set_f, r1', m1, m2, m3, m4, v1, ↓reduceIte]
    · simp only [AHeap.set_f, r2', m1, m2, m3, m4, v2, ↓reduceIte]
    · simp only [AHeap.set_f, r3', m1, m2, m3, m4, v3, ownD_pos (Nat.succ_ne_zero i), ↓reduceIte]
    · simp only [AHeap.set_f, r3, htk, ↓reduceIte]
theorem ref_c (n : Nd) (h : n.cnt < 1000000000) : PCall Tryd.prog 17 [.agg n.enc] (.agg n.enc) :=
  byCnt (M := 1000000000) (g := fun n => .agg n.enc) (Tab.zero_ok _) (q := qT) (fun k hk hT n hn _ => ref_step k hk hT n hn) 1000000000 (Nat.le_refl _) n h rfl
def qRefNum : List D → Option D
  | [.int .u64 n, .int .i64 m] => if 0 ≤ n ∧ n < 18446744073709551616 then some (.str (leB n.toNat (bN m))) else none
  | _ => none
theorem qRefNum_ok (args : List D) (d : D) (h : qRefNum args = some d) : PCall Tryd.prog 26 args d := by
  unfold qRefNum at h
  split at h
  · split at h
    · rename_i n m c
      cases h
      have := refNumber_c n.toNat m (by omega)
      rwa [Int.toNat_of_nonneg c.1] at this
    · cases h
  · cases h
theorem qRefNum_eq {k m : Int} (h : 0 ≤ k ∧ k < 18446744073709551616) : qRefNum [.int .u64 k, .int .i64 m] = some (.str (leB k.toNat (bN m))) := by
  simp only [qRefNum]; rw [if_pos h]
def tbRn : Tab := Tab.zero.addQ 26 qRefNum
theorem tbRn_q (g : FuncId) (args : List D) : tbRn.q g args = if g = 26 then qRefNum args else Tab.zero.q g args := rfl
theorem tbRn_a : tbRn.a = Tab.zero.a := rfl
theorem tbRn_c : tbRn.c = Tab.zero.c := rfl
theorem tbRn_ok : tbRn.ok Tryd.prog := Tab.addQ_ok (Tab.zero_ok _) qRefNum_ok
theorem tbRn_e : type_of% (And.intro @tbRn_q (And.intro @tbRn_a @tbRn_c)) := (And.intro @tbRn_q (And.intro @tbRn_a @tbRn_c))

theorem refText_c (s : List UInt8) (hs : 4 + s.length ≤ 9223372036854775807) : PCall Tryd.prog 44 [.str s] (.str (leB s.length 4 ++ s)) := by
  refine PCall.run tbRn_ok st44n (by simp) fun E => ?_
  simp (config := {maxSteps := 1000000}) only [s44n, tb41n_e, tbLp_e, tb12n_e, tbRn_e, i_callNe, Int.natCast_nonneg, Nat.le_refl, Int.le_refl, List.take_succ_cons, List.take_zero, decide_true, decide_false, Bool.and_false, Bool.false_and, zz, zzN, zzF, zzD, zzM, cond_true, cond_false, ↓reduceIte, Nat.reduceEqDiff, Nat.reduceBEq, Int.reduceLT, Int.reduceLE, Int.reduceToNat, Int.reduceEq, Int.reduceAdd, Int.reduceSub, Int.reduceMul, Int.reduceNeg, Nat.reduceMul, Nat.reduceSub, Nat.reduceLeDiff, Nat.reduceLT, Int.reduceGT, Int.reduceGE, Int.reduceBEq, Int.reduceBNe, reduceCtorEq, Nat.reduceAdd]
  intro hl
  rw [wrap_u64 (by omega) (by omega), qRefNum_eq (by omega)]
  simp (config := {maxSteps := 1000000}) only [len_leB, tb41n_e, tbLp_e, tb12n_e, tbRn_e, i_callNe, Int.natCast_nonneg, Nat.le_refl, Int.le_refl, List.take_succ_cons, List.take_zero, decide_true, decide_false, Bool.and_false, Bool.false_and, zz, zzN, zzF, zzD, zzM, cond_true, cond_false, ↓reduceIte, Nat.reduceEqDiff, Nat.reduceBEq, Int.reduceLT, Int.reduceLE, Int.reduceToNat, Int.reduceEq, Int.reduceAdd, Int.reduceSub, Int.reduceMul, Int.reduceNeg, Nat.reduceMul, Nat.reduceSub, Nat.reduceLeDiff, Nat.reduceLT, Int.reduceGT, Int.reduceGE, Int.reduceBEq, Int.reduceBNe, reduceCtorEq, Nat.reduceAdd]
  exact ⟨hs, .inl rfl⟩
def q44n : List D → Option D
  | [.str s] => if 4 + s.length ≤ 9223372036854775807 then some (.str (leB s.length 4 ++ s)) else none
  | _ => none
theorem q44n_ok (args : List D) (d : D) (h : q44n args = some d) : PCall Tryd.prog 44 args d := by
  unfold q44n at h
  split at h
  · split at h
    · cases h; exact refText_c _ (by assumption)
    · cases h
  · cases h

def qLen (n : Nd) : Bool := decide ((encF n).length ≤ 9223372036854775807)
def tbRt : Tab := tbRn.addQ 44 q44n
theorem tbRt_q (g : FuncId) (args : List D) : tbRt.q g args = if g = 44 then q44n args else tbRn.q g args := rfl
theorem tbRt_a : tbRt.a = tbRn.a := rfl
theorem tbRt_c : tbRt.c = tbRn.c := rfl
theorem tbRt_ok : tbRt.ok Tryd.prog := Tab.addQ_ok tbRn_ok q44n_ok
theorem tbRt_e : type_of% (And.intro (And.intro @tbRt_q (And.intro @tbRt_a @tbRt_c)) @tbRn_e) := (And.intro (And.intro @tbRt_q (And.intro @tbRt_a @tbRt_c)) @tbRn_e)

set_option maxHeartbeats 1000000 in
theorem bytesN_step (f : Nat) (hf : f < 1000000000) (hT : (tbRt.addQ 16 (qN (fun n => decide (n.cnt < f) && qLen n) fun n => .str (encF n))).ok Tryd.prog) (n : Nd) (hn : n.cnt < f + 1) (hL : qLen n = true) : PCall Tryd.prog 16 [.agg n.enc] (.str (encF n)) := by
  refine PCall.run hT st16n (by simp) fun E => ?_
  have hT_q : ∀ g args, (tbRt.addQ 16 (qN (fun n => decide (n.cnt < f) && qLen n) fun n => .str (encF n))).q g args = if g = 16 then qN (fun n => decide (n.cnt < f) && qLen n) (fun n => .str (encF n)) args else tbRt.q g args := fun g args => rfl
  have hq : ∀ y : Nd, y.cnt < f → qLen y = true → qN (fun n => decide (n.cnt < f) && qLen n) (fun n => .str (encF n)) [.agg y.enc] = some (.str (encF y)) := fun y hy hl => qN_eq (by simp [hy, hl])
  generalize tbRt.addQ 16 (qN (fun n => decide (n.cnt < f) && qLen n) fun n => .str (encF n)) = TT at hT_q ⊢
  obtain ⟨k, t, x, m, l⟩ := n
  have hcnt : ∀ y ∈ l, y.cnt < f := fun y hy => by have := cnt_kid (k := k) (t := t) (s := x) (n := m) hy; omega
  have hln : l.length ≤ f := by rw [cnt_mk] at hn; have := cnts_len l; omega
  have hw64 : ∀ k : Int, IntKind.u64.wrap k = ((k % 18446744073709551616).toNat : Int) := fun k => by rw [wrap_u64_mod]; omega
  have hnum : ∀ (k m : Int), qRefNum [.int .u64 ((k % 18446744073709551616).toNat : Int), .int .i64 m] = some (.str (uB k (bN m))) := fun k m => by rw [qRefNum_eq (by omega)]; rfl
  have hlb : ∀ n m, (leB n m).length = m := len_leB
  have hub : ∀ n m, (uB n m).length = m := fun n m => len_leB _ _
  have hL : (encF (.mk k t x m l)).length ≤ 9223372036854775807 := by simpa [qLen] using hL
  rw [encF_mk] at hL
  simp only [List.length_append, hlb, hub] at hL
  have e44 : q44n [.str x] = some (.str (leB x.length 4 ++ x)) := by simp only [q44n]; rw [if_pos (by omega)]
  have b1 : bN 1 = 1 := rfl
  have b8 : bN 8 = 8 := rfl
  have e5 : uB (l.length : Int) 1 = leB l.length 1 := uB_nat (by omega)
  rw [enc_mk, encF_mk]
  simp (config := {maxSteps := 1000000}) only [s16n, hw64, hnum, e44, b1, b8, e5, len_encs, hT_q, tb41n_e, tbLp_e, tb12n_e, tbRt_e, i_callNe, Int.natCast_nonneg, Nat.le_refl, Int.le_refl, List.take_succ_cons, List.take_zero, decide_true, decide_false, Bool.and_false, Bool.false_and, zz, zzN, zzF, zzD, zzM, cond_true, cond_false, ↓reduceIte, Nat.reduceEqDiff, Nat.reduceBEq, Int.reduceLT, Int.reduceLE, Int.reduceToNat, Int.reduceEq, Int.reduceAdd, Int.reduceSub, Int.reduceMul, Int.reduceNeg, Nat.reduceMul, Nat.reduceSub, Nat.reduceLeDiff, Nat.reduceLT, Int.reduceGT, Int.reduceGE, Int.reduceBEq, Int.reduceBNe, reduceCtorEq, Nat.reduceAdd]
  intro i1
  generalize hacc : uB k 1 ++ uB t 1 ++ (leB x.length 4 ++ x) ++ uB m 8 ++ leB l.length 1 = acc
  have lacc : acc.length = 15 + x.length := by rw [← hacc]; simp only [List.length_append, hlb, hub]; omega
  refine ⟨by rw [hub, hub]; omega, by simp only [List.length_append, hlb, hub]; omega, by simp only [List.length_append, hlb, hub]; omega, by simp only [List.length_append, hlb, hub]; omega, ?_⟩
  refine run_loop (X := Nat) (fun z => [(1, .ptr i1 1 0), (3, .str (acc ++ encFs (l.take z))), (4, .int .i64 z)]) (fun z => AHeap.emp.set i1 (.cells [.int .i64 k, .int .i64 t, .str x, .int .i64 m, .sl (Nd.encs l)])) (fun z => l.length - z)
    (fun z => z ≤ l.length) 0 (Nat.zero_le _) ?_ (AHeap.sub_refl _) ?_
  · simp only [List.take_zero, encFs_nil, List.append_nil, i_callNe, Int.natCast_nonneg, Nat.le_refl, Int.le_refl, List.take_succ_cons, List.take_zero, decide_true, decide_false, Bool.and_false, Bool.false_and, zz, zzN, zzF, zzD, zzM, cond_true, cond_false, ↓reduceIte, Nat.reduceEqDiff, Nat.reduceBEq, Int.reduceLT, Int.reduceLE, Int.reduceToNat, Int.reduceEq, Int.reduceAdd, Int.reduceSub, Int.reduceMul, Int.reduceNeg, Nat.reduceMul, Nat.reduceSub, Nat.reduceLeDiff, Nat.reduceLT, Int.reduceGT, Int.reduceGE, Int.reduceBEq, Int.reduceBNe, reduceCtorEq, Nat.reduceAdd]
  intro i Q j0 hQ
  cases c : decide (i < l.length) with
  | false =>
    have e0 : i = l.length := by simp at c; omega
    have g : ((i : Int) < (l.length : Int)) = False := eq_false (by omega)
    simp (config := {maxSteps := 1000000}) only [g, len_encs, hT_q, tb41n_e, tbLp_e, tb12n_e, tbRt_e, i_callNe, Int.natCast_nonneg, Nat.le_refl, Int.le_refl, List.take_succ_cons, List.take_zero, decide_true, decide_false, Bool.and_false, Bool.false_and, zz, zzN, zzF, zzD, zzM, cond_true, cond_false, ↓reduceIte, Nat.reduceEqDiff, Nat.reduceBEq, Int.reduceLT, Int.reduceLE, Int.reduceToNat, Int.reduceEq, Int.reduceAdd, Int.reduceSub, Int.reduceMul, Int.reduceNeg, Nat.reduceMul, Nat.reduceSub, Nat.reduceLeDiff, Nat.reduceLT, Int.reduceGT, Int.reduceGE, Int.reduceBEq, Int.reduceBNe, reduceCtorEq, Nat.reduceAdd]
    rw [e0, List.take_length]
    exact fun _ => .inl rfl
  | true =>
    have c : i < l.length := by simpa using c
    obtain ⟨y, hy⟩ : ∃ y, l[i]? = some y := ⟨_, List.getElem?_eq_getElem c⟩
    have g : ((i : Int) < (l.length : Int)) = True := eq_true (by omega)
    have hym : y ∈ l := List.mem_of_getElem? hy
    have wi : IntKind.i64.wrap ((i : Int) + 1) = ((i + 1 : Nat) : Int) := wrap_succ (by omega)
    have hp := part_enc y
    have hac : ∀ (K : D → AHeap → Prop) (h : AHeap), askE 5 K h (Nd.encs l) (i : Int) = K (.eptr y.enc 0) h := fun K h => askE_encs hy
    have hyF := encFs_take hy
    have hyl := encFs_le l (i + 1)
    rw [hyF, List.length_append] at hyl
    have hqy := hq y (hcnt y hym) (by simp only [qLen, decide_eq_true_eq]; omega)
    generalize encF y = ye at *
    clear hy hym hq
    obtain ⟨yk, yt, yx, ym, yl⟩ := y
    rw [enc_mk] at *
    simp (config := {maxSteps := 1000000}) only [g, hac, hp, wi, hqy, len_encs, hT_q, tb41n_e, tbLp_e, tb12n_e, tbRt_e, i_callNe, Int.natCast_nonneg, Nat.le_refl, Int.le_refl, List.take_succ_cons, List.take_zero, decide_true, decide_false, Bool.and_false, Bool.false_and, zz, zzN, zzF, zzD, zzM, cond_true, cond_false, ↓reduceIte, Nat.reduceEqDiff, Nat.reduceBEq, Int.reduceLT, Int.reduceLE, Int.reduceToNat, Int.reduceEq, Int.reduceAdd, Int.reduceSub, Int.reduceMul, Int.reduceNeg, Nat.reduceMul, Nat.reduceSub, Nat.reduceLeDiff, Nat.reduceLT, Int.reduceGT, Int.reduceGE, Int.reduceBEq, Int.reduceBNe, reduceCtorEq, Nat.reduceAdd]
    intro _
    refine ⟨by rw [List.length_append]; omega, ?_⟩
    refine hQ (i + 1) _ _ c (by simp only [hyF, ← List.append_assoc, i_callNe, Int.natCast_nonneg, Nat.le_refl, Int.le_refl, List.take_succ_cons, List.take_zero, decide_true, decide_false, Bool.and_false, Bool.false_and, zz, zzN, zzF, zzD, zzM, cond_true, cond_false, ↓reduceIte, Nat.reduceEqDiff, Nat.reduceBEq, Int.reduceLT, Int.reduceLE, Int.reduceToNat, Int.reduceEq, Int.reduceAdd, Int.reduceSub, Int.reduceMul, Int.reduceNeg, Nat.reduceMul, Nat.reduceSub, Nat.reduceLeDiff, Nat.reduceLT, Int.reduceGT, Int.reduceGE, Int.reduceBEq, Int.reduceBNe, reduceCtorEq, Nat.reduceAdd]) (AHeap.sub_refl _) (by omega)
theorem bytesN_c (n : Nd) (h : n.cnt < 1000000000) (hL : qLen n = true) : PCall Tryd.prog 16 [.agg n.enc] (.str (encF n)) :=
  byCnt (M := 1000000000) (g := fun n => .str (encF n)) tbRt_ok (q := qLen) (fun k hk hT n hn hq => bytesN_step k hk hT n hn hq) 1000000000 (Nat.le_refl _) n h hL
end
end Go.Proofs.YthpgepillaeldaaDoor.Zz
/- From a contract to a row: what a law's call leaves behind, and its arguments as plain data. -/
set_option linter.unusedVariables false
set_option linter.unusedSimpArgs false
namespace Go.Proofs.YthpgepillaeldaaDoor.Zz
open Go.RowKit

/-- All that was there does not change. -/
def old (w : World) : Kap := { imm := fun b => b < w.heap.size, loc := fun _ => none }
theorem old_inv [Globs] (w : World) (hg : GlobRep (old w) w) : Inv (old w) .emp w :=
  ⟨fun b h => h, fun i p h => (by cases h), ⟨0, fun _ _ => rfl⟩, fun i o h => (by cases h), fun i j oi oj pi pj h => (by cases h), hg⟩

theorem law_of [Globs] {P : Program} {f : FuncId} {args : List D} (c : PCall P f args (.bool true)) {vs : Array Value} {w : World} (hg : GlobRep (old w) w) (hr : RepL (old w) w vs.toList args) :
    Calls P f vs w fun e w' => e = .returned (.bool true) ∧ Below w.heap.size w w' :=
  (c.2 (old w) w vs (old_inv w hg) hr).mono fun e w' ⟨o, h', κ', e1, r, i, ev⟩ => by
    subst e1
    cases r with
    | ret r =>
      cases r
      refine ⟨rfl, ev.os, ev.tape, ev.output, ev.size, fun k hk => ev.blocks k hk fun ho => ?_⟩
      obtain ⟨id, o, p, h, _⟩ := ho
      simp at h

theorem rep_string {κ : Kap} {w : World} {s : ByteArray} (h : s.size ≤ maxLen) : Rep κ w (.string s) (.str s.data.toList) := by
  have := Rep.str (κ := κ) (w := w) s.data.toList (by
    have : s.data.toList.length = s.size := by simp
    rw [this]
    have h2 : maxLen ≤ 9223372036854775807 := by decide
    omega)
  simpa using this

theorem cell_lt {w : World} {b o : Nat} {v : Value} (h : w.cell? ⟨b, o, none⟩ = some v) : b < w.heap.size := by
  simp only [World.cell?] at h
  cases e : w.heap[b]? with
  | none => simp [e] at h
  | some x => exact (Array.getElem?_eq_some_iff.1 e).1

/-- A slice of single cells that came in. -/
theorem rep_slice1 {w : World} {a : Addr} {len cap : Nat} (f : Nat → Value) (g : Nat → D) (hl : len ≤ cap) (hm : cap ≤ maxLen) (hc : ∀ i, i < len → w.cell? (a.add i) = some (f i)) (hr : ∀ i, i < len → Rep (old w) w (f i) (g i)) :
    Rep (old w) w (.slice (some a) len cap) (.sl ((List.range len).map fun i => [g i])) := by
  by_cases h0 : len = 0
  · subst h0; exact .slnil (fun h => by cases h)
  · obtain ⟨b, o, sp⟩ := a
    have hs : sp = none := by simpa [Addr.add] using World.cell?_spot (hc 0 (by omega))
    subst hs
    have h2 : maxLen ≤ 9223372036854775807 := by decide
    have get : ∀ {i : Nat} {x : List D} {j : Nat} {d : D}, ((List.range len).map fun i => [g i])[i]? = some x → x[j]? = some d → i < len ∧ j = 0 ∧ d = g i := fun {i x j d} h1 h3 => by
      rw [List.getElem?_map] at h1
      by_cases hi : i < len
      · rw [List.getElem?_range hi] at h1
        simp only [Option.map_some, Option.some.injEq] at h1
        subst h1
        cases j with
        | zero => simp at h3; exact ⟨hi, rfl, h3.symm⟩
        | succ j => simp at h3
      · rw [List.getElem?_eq_none (by simp; omega)] at h1; cases h1
    have hcell : ∀ i, i < len → w.cell? ⟨b, o + i, none⟩ = some (f i) := fun i hi => by
      have := hc i hi
      unfold Addr.add at this
      split at this
      · rename_i e; subst e; simpa using this
      · simpa using this
    refine Rep.sl_of (sz := 1) (by simp) (fun i _ => f i) (by simp; omega) (by simp; omega) (by simp) (fun i x j d h1 h3 => ?_) (fun i x j d h1 h3 => ?_)
    · obtain ⟨hi, rfl, rfl⟩ := get h1 h3
      have := hcell i hi
      exact ⟨cell_lt this, by simpa using this⟩
    · obtain ⟨hi, rfl, rfl⟩ := get h1 h3
      exact hr i hi

section
variable {H : Type} {enc : TypeId × Value → H} {P : Program} {w : World} {spare : Nat → Bool} {held : Bool}
theorem ints_rep {t e : TypeId} {k : IntKind} {a : Option Addr} {len cap : Nat} {d : DataW H} {ps : List MemPlace} (ht : P.underlying t = some (.slice e)) (he : P.underlying e = some (.int k)) (hc : P.cellsOf e = 1)
    (h : DataW.Trod enc P w 0 spare held t (.slice a len cap) d ps) : ∃ l : List Int, (∀ n ∈ l, (Lit.int k n).wf = true) ∧ Rep (old w) w (.slice a len cap) (.sl (l.map fun n => [.int k n])) := by
  obtain ⟨fuel, hf⟩ := h
  rcases Go.ChangeShapes.open_ints ht he hc hf with ⟨hcs, _⟩ | ⟨x, l, c, zs, hcs, _, hl, hm, hz, _, hcell, hwz⟩
  · simp [Value.cells] at hcs
    obtain ⟨rfl, rfl, rfl⟩ := hcs
    exact ⟨[], by simp, .slnil (fun _ => rfl)⟩
  · simp [Value.cells] at hcs
    obtain ⟨rfl, rfl, rfl⟩ := hcs
    have hlz : len ≤ zs.length := by rw [hz]; split <;> omega
    refine ⟨(List.range len).map fun i => zs.getD i 0, ?_, ?_⟩
    · intro n hn
      obtain ⟨i, hi, rfl⟩ := List.mem_map.1 hn
      have hi := List.mem_range.1 hi
      apply hwz
      rw [List.getD_eq_getElem?_getD, List.getElem?_eq_getElem (by omega)]
      exact List.getElem_mem _
    · rw [List.map_map]
      exact rep_slice1 (fun i => .int k (zs.getD i 0)) (fun i => .int k (zs.getD i 0)) hl hm (fun i hi => hcell i (by omega)) (fun i hi => .int k _)
theorem strs_rep {t e : TypeId} {a : Option Addr} {len cap : Nat} {d : DataW H} {ps : List MemPlace} (ht : P.underlying t = some (.slice e)) (he : P.underlying e = some .string) (hc : P.cellsOf e = 1)
    (h : DataW.Trod enc P w 0 spare held t (.slice a len cap) d ps) : ∃ l : List (List UInt8), Rep (old w) w (.slice a len cap) (.sl (l.map fun s => [.str s])) := by
  obtain ⟨fuel, hf⟩ := h
  rcases Go.Deep.open_strs ht he hc hf with ⟨hcs, _⟩ | ⟨x, l, c, m, Sx, hcs, _, hl, hm, hz, _, hcell⟩
  · simp [Value.cells] at hcs
    obtain ⟨rfl, rfl, rfl⟩ := hcs
    exact ⟨[], .slnil (fun _ => rfl)⟩
  · simp [Value.cells] at hcs
    obtain ⟨rfl, rfl, rfl⟩ := hcs
    have hlz : len ≤ m := by rw [hz]; split <;> omega
    refine ⟨(List.range len).map fun i => (Sx i).data.toList, ?_⟩
    · rw [List.map_map]
      exact rep_slice1 (fun i => .string (Sx i)) (fun i => .str (Sx i).data.toList) hl hm (fun i hi => (hcell i (by omega)).1) (fun i hi => rep_string (hcell i (by omega)).2)
/-- A struct of two whole numbers that came in. -/
theorem pair_rep {κ : Kap} {t : TypeId} {f0 f1 : Field} {k0 k1 : IntKind} {cs : Array Value} {d : DataW H} {ps : List MemPlace} (ht : P.underlying t = some (.struct #[f0, f1])) (h0 : P.underlying f0.type = some (.int k0)) (h1 : P.underlying f1.type = some (.int k1))
    (hc : P.cellsOf t = 2) (c0 : P.cellsOf f0.type = 1) (c1 : P.cellsOf f1.type = 1) (o0 : f0.offset = 0) (o1 : f1.offset = 1)
    (h : DataW.Trod enc P w 0 spare held t (.agg cs) d ps) : ∃ n m : Int, (Lit.int k0 n).wf = true ∧ (Lit.int k1 m).wf = true ∧ Rep κ w (.agg cs) (.agg [.int k0 n, .int k1 m]) := by
  obtain ⟨fuel, hf⟩ := h
  obtain ⟨y0, y1, n, _, hl, g0, g1⟩ := Go.ChangeShapes.trod_struct2 ht hf
  rw [o0, c0] at g0
  rw [o1, c1] at g1
  rw [hc] at hl
  obtain ⟨a, e0, _, w0⟩ := DataW.trod_int h0 g0
  obtain ⟨b, e1, _, w1⟩ := DataW.trod_int h1 g1
  simp only [Value.cells] at hl e0 e1
  have hcs : cs = #[.int k0 a, .int k1 b] := by
    obtain ⟨l⟩ := cs
    match l, hl with
    | [u, v], _ =>
      simp at e0 e1
      rw [e0, e1]
  subst hcs
  refine ⟨a, b, w0, w1, .agg rfl fun i d hd => ?_⟩
  match i, hd with
  | 0, hd => simp at hd; subst hd; exact .int _ _
  | 1, hd => simp at hd; subst hd; exact .int _ _
end
end Go.Proofs.YthpgepillaeldaaDoor.Zz
/- From what a card lists of package-level variables to what the logic asks of them; the wrap that keeps both what is listed and the world's shape. -/
set_option linter.unusedVariables false
set_option linter.unusedSimpArgs false
namespace Go.Proofs.YthpgepillaeldaaDoor.Zz
open Go.RowKit

section
variable {P : Program} {w : World}
theorem laid_get : ∀ {laid : List (String × DataW Unit)} {ps : List MemPlace}, DataW.LaidVars P w laid ps → ∀ {i : Nat} {n : String} {d : DataW Unit}, laid[i]? = some (n, d) →
    ∃ g t cs fuel p, P.globalNamed n = some g ∧ (P.globals[g]?).map (·.type) = some t ∧ w.var? P n = some cs ∧ DataW.trod (fun _ => ()) P w 0 (fun _ => true) false fuel t cs.toList = some (d, p) ∧ ∀ x ∈ MemPlace.row ⟨g, 0, none⟩ cs.size, x ∈ ps
  | [], ps, _, i, n, d, e => by simp at e
  | (m, c) :: r, ps, h, i, n, d, e => by
    obtain ⟨g, t, cs, fuel, p, q, h1, h2, h3, h4, h5, h6⟩ := h
    cases i with
    | zero =>
      cases e
      exact ⟨g, t, cs, fuel, p, h1, h2, h3, h4, fun x hx => by rw [h6]; simp [hx]⟩
    | succ i =>
      obtain ⟨g', t', cs', fuel', p', k1, k2, k3, k4, k5⟩ := laid_get h5 (i := i) (by simpa using e)
      exact ⟨g', t', cs', fuel', p', k1, k2, k3, k4, fun x hx => by rw [h6]; simp [k5 x hx]⟩
/-- An array of whole numbers that is listed. -/
theorem laid_ints {κ : Kap} {laid : List (String × DataW Unit)} (h : laidMet P laid w) {i : Nat} {n : String} {g N : Nat} {t e : TypeId} {k : IntKind} (zs : List Int) (hm : laid[i]? = some (n, .agg (zs.map fun z => .lit (.int k z))))
    (hg : P.globalNamed n = some g) (ht : (P.globals[g]?).map (·.type) = some t) (hu : P.underlying t = some (.array N e)) (he : P.underlying e = some (.int k)) (hc : P.cellsOf t = N) (ce : P.cellsOf e = 1) (h0 : 0 < N) :
    ∃ (cs : Array Value) (ty : TypeId), w.heap[g]? = some (.cells cs ty (0, 0)) ∧ cs.size = zs.length ∧ ∀ (j : Nat) (d : D), (zs.map fun z => D.int k z)[j]? = some d → ∃ v, cs[j]? = some v ∧ Rep κ w v d := by
  obtain ⟨ps, hl, _, hcell⟩ := h
  obtain ⟨g', t', cs, fuel, p, k1, k2, k3, k4, k5⟩ := laid_get hl hm
  rw [hg] at k1
  cases k1
  rw [ht] at k2
  cases k2
  obtain ⟨xs, m, _, hx, hs, hn, hat⟩ := DataW.trod_array hu k4
  rw [ce] at hat
  have hcs : cs.size = N := by simpa [hc] using hs
  have hzx : zs.map (fun z => DataW.lit (H := Unit) (.int k z)) = xs.map (·.1) := by injection hx with h1 h2; injection h1
  have hzl : zs.length = N := by have := congrArg List.length hzx; simp at this; omega
  obtain ⟨c, ty, hh⟩ := (hcell g 0 (k5 _ (by
    simp only [MemPlace.row, List.mem_map, List.mem_range]
    exact ⟨0, by omega, rfl⟩))).1
  have hcc : c = cs := by
    simp only [World.var?, hg, Option.bind_some, hh] at k3
    exact Option.some.inj k3
  subst hcc
  refine ⟨c, ty, hh, by omega, fun j d hd => ?_⟩
  have hj : j < N := by have := (List.getElem?_eq_some_iff.1 hd).1; simp at this; omega
  have g1 := hat j hj
  have e1 : (c.toList.drop (j * 1)).take 1 = [c[j]'(by omega)] := by
    rw [Nat.mul_one, List.drop_eq_getElem_cons (by simp; omega)]
    simp
  rw [e1, List.getElem?_eq_getElem (by omega)] at g1
  obtain ⟨a, e2, e3, _⟩ := DataW.trod_int he g1
  have e4 : c[j]'(by omega) = .int k a := by simpa using e2
  have e5 : zs[j]'(by omega) = a := by
    have := congrArg (fun l : List (DataW Unit) => l[j]?) hzx
    simp only [List.getElem?_map, List.getElem?_eq_getElem (show j < zs.length by omega), List.getElem?_eq_getElem (show j < xs.length by omega), Option.map_some, Option.some.injEq] at this
    rw [e3] at this
    simpa using this
  have e6 : d = .int k a := by
    simp only [List.getElem?_map, List.getElem?_eq_getElem (show j < zs.length by omega), Option.map_some, Option.some.injEq, e5] at hd
    exact hd.symm
  refine ⟨.int k a, by rw [Array.getElem?_eq_getElem (by omega), e4], ?_⟩
  rw [e6]
  exact .int k a
end

section
variable {H : Type} {enc : TypeId × Value → H}
theorem returns_both {a : Assume} {C : Checked} {os : Os} {f : FuncId} {fn : Func} {s : ChangeSpec} {conds : List PathCond} {apart fresh handsOn again : Bool} {X : World → Array Value → Prop}
    (hX : ∀ (w w' : World) (args : Array Value), w.heap = w'.heap → X w args → X w' args)
    (own : ownKnob C.prog.godebug = none) (started : os.Started) (noInit : C.prog.inits.idxOf? f = none) (hfn : C.prog.funcs[f]? = some fn)
    (witness : ∃ (w : World) (tape : Tape) (i : Input), w.os = os ∧ (w.forCall tape i).Shaped C.prog ∧ i.vars = [] ∧ Input.okWide C.prog (w.forCall tape i) .any w.heap.size f i ∧
      ((s.pre enc C.prog fn conds apart (w.forCall tape i).memory i.args ∧ X (w.forCall tape i).memory i.args) ∧ sizedMet enc C.prog fn (OpenSpec.ofChange s) apart (w.forCall tape i).memory i.args) ∧ a.holds C.prog (lone (Frame.enter C.prog f i.args .normal) [] (w.forCall tape i)))
    (contract : ∀ (W : World) (base : Nat) (args : Array Value) (ds gs : List (DataW H)) (before : List MemPlace),
      (∀ (j : Nat) t v, fn.params[j]? = some t → args[j]? = some v → Value.okWide C.prog W .any base t v) →
      DataW.Whole enc C.prog fn.params.toList s.vars apart W args.toList ds gs before →
      conds.all (PathCond.test C.prog ⟨fn.params.toList, ds, s.plain.varTypes C.prog, gs⟩) = true → X W args → W.ShapedOpen C.prog →
      Calls C.prog f args W fun e W' => ∃ v, e = .returned v ∧ s.post enc C.prog fn apart fresh handsOn again W args v W') :
    ReturnsInHanded a C os f .any (fun w args => (s.pre enc C.prog fn conds apart w args ∧ X w args) ∧ sizedMet enc C.prog fn (OpenSpec.ofChange s) apart w args) (s.post enc C.prog fn apart fresh handsOn again) := by
  refine returnsInHanded_of_calls own started noInit witness ?_
  intro w tape i _ hsh _ hok hpre _
  obtain ⟨_, _, _, fn', hfn', _, _, _, _, hval⟩ := hok
  have e : fn' = fn := Option.some.inj (hfn'.symm.trans hfn)
  subst e
  obtain ⟨⟨⟨ds, gs, before, hw, hc⟩, hx⟩, hz⟩ := hpre
  have hw' := DataW.Whole.of_heap (w' := w.forCall tape i) (by rfl) hw
  refine (contract (w.forCall tape i) w.heap.size i.args ds gs before hval hw' hc (hX _ _ _ (by rfl) hx) hsh).mono fun e W' ⟨v, he, hp⟩ => ?_
  subst he
  exact ChangeSpec.post_blind hp
end
/-- The cells of a table of whole numbers. -/
def cellsOf : DataW Unit → List Value
  | .agg xs => xs.flatMap fun
    | .lit (.int k n) => [.int k n]
    | .agg ys => ys.flatMap fun
      | .lit (.int k n) => [.int k n]
      | _ => []
    | _ => []
  | _ => []
/-- A world in which blocks hold these cells. -/
def fillAt (h : Array Obj) : List (Nat × Array Value) → Array Obj
  | [] => h
  | (g, cs) :: r => fillAt (h.modify g fun
      | .cells _ t fz => .cells cs t fz
      | o => o) r
/-- A call of plain data leaves whatever lies there as it was. -/
theorem PCall.toA [Globs] {P : Program} {f : FuncId} {args : List D} {d : D} (hv : PCall P f args d) (h : AHeap) : ACalls P f args h fun o h' => o = .ret d ∧ h' = h := by
  refine ⟨hv.1, fun κ w vs hi hr => ?_⟩
  have sub := AHeap.emp_sub h
  refine (hv.2 κ w vs (hi.sub sub) hr).mono fun e w' ⟨o, h', κ'', a0, a2, a3, a4⟩ => ?_
  subst a0
  obtain ⟨f1, f2, _⟩ := hi.frame sub a3 a4
  have sub2 : h.sub (h'.union (h.minus .emp)) := fun id o ho => by
    obtain ⟨p, hp, _⟩ := hi.obj id o ho
    have := a4.ids id p hp rfl
    simpa [AHeap.union, AHeap.minus, this] using ho
  exact ⟨.ret d, h, κ'', ⟨rfl, rfl⟩, a2, f1.sub sub2, { f2 with own := fun b hb ho => f2.own b hb (ho.sub sub2), ids := fun id p hp hn => hn }⟩
end Go.Proofs.YthpgepillaeldaaDoor.Zz
