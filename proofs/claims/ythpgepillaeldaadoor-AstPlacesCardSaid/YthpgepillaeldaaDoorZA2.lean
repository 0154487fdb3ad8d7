/- Contracts: a tree is taken out of bytes. -/
import Derived.Test.YthpgepillaeldaaDoorZA1
set_option linter.unnecessarySimpa false
namespace Go.Proofs.YthpgepillaeldaaDoor.Zz
set_option linter.unusedVariables false
set_option linter.unusedSimpArgs false
set_option maxRecDepth 20000
def p66n : Plan := ⟨⟨[], [(3, 1), (4, 1), (4, 4), (4, 7), (4, 9), (5, 1), (6, 4), (8, 6), (9, 1)], [], [((8, 6), [(.t 7)])], [((8, 1), (.t 7))], []⟩, [(8, [0, 1, 2, 3, 4, 5, 6, 7, 8, 9, 10])], [], false⟩
/-- cupel/ast.take (3 parameters, 0 captured) -/
def s66n : Stm :=
  .seq (.ops [⟨.alloc [(.int .i64 0), (.int .i64 0), (.str []), (.int .i64 0), .nilsl], (some 6), none, false⟩])
  (.seq (.ops [⟨.mov (.t 1), (some 9), none, true⟩,
     ⟨.nilCheck (.t 9), (some 10), none, true⟩,
     ⟨.load none (.t 10), (some 11), none, false⟩,
     ⟨.bin .sub (.t 11) (.c (.int .i64 1)), (some 12), none, true⟩,
     ⟨.nilCheck (.t 9), (some 13), none, true⟩,
     ⟨.store 1 (.t 13) (.t 12), none, none, false⟩])
  (.seq (.seq (.ops [⟨.mov (.t 1), (some 14), none, true⟩,
      ⟨.nilCheck (.t 14), (some 15), none, true⟩,
      ⟨.load none (.t 15), (some 16), none, false⟩,
      ⟨.bin .lss (.t 16) (.c (.int .i64 0)), (some 17), none, true⟩,
      ⟨.mov (.t 17), (some 18), none, true⟩,
      ⟨.mov (.t 2), (some 19), (some (18, false)), true⟩,
      ⟨.bin .gtr (.t 19) (.c (.int .i64 144)), (some 20), (some (18, false)), true⟩,
      ⟨.pick (.t 18) (.c (.bool true)) (.t 20), (some 21), none, true⟩])
   (.cond (.t 21)
    (.ops [⟨.mov (.t 0), (some 22), none, true⟩,
       ⟨.call (.f 68) [(.t 22), (.c (.int .i64 3))], (some 23), none, false⟩])
    (.skip)))
  (.seq (.ops [⟨.mov (.t 0), (some 24), none, true⟩,
     ⟨.call (.f 95) [(.t 24), (.c (.int .i64 1))], (some 25), none, false⟩,
     ⟨.conv (.intInt .i64) (.t 25), (some 26), none, true⟩,
     ⟨.mov (.t 0), (some 27), none, true⟩,
     ⟨.call (.f 95) [(.t 27), (.c (.int .i64 1))], (some 28), none, false⟩,
     ⟨.conv (.intInt .i64) (.t 28), (some 29), none, true⟩,
     ⟨.mov (.t 0), (some 30), none, true⟩,
     ⟨.call (.f 96) [(.t 30), (.c (.int .i64 64))], (some 31), none, false⟩,
     ⟨.mov (.t 0), (some 32), none, true⟩,
     ⟨.call (.f 95) [(.t 32), (.c (.int .i64 8))], (some 33), none, false⟩,
     ⟨.conv (.intInt .i64) (.t 33), (some 34), none, true⟩,
     ⟨.build [(.int .i64 0), (.int .i64 0), (.str []), (.int .i64 0), .nilsl] [(0, 1, (.t 26)), (1, 1, (.t 29)), (2, 1, (.t 31)), (3, 1, (.t 34))], (some 35), none, true⟩,
     ⟨.alloc [(.int .i64 0), (.int .i64 0), (.str []), (.int .i64 0), .nilsl], (some 7), none, false⟩,
     ⟨.store 5 (.t 7) (.t 35), none, none, false⟩])
  (.seq (.seq (.ops [⟨.mov (.t 0), (some 36), none, true⟩,
      ⟨.call (.f 95) [(.t 36), (.c (.int .i64 1))], (some 37), none, false⟩,
      ⟨.mov (.t 37), (some 8), none, true⟩])
   (.block 0 (.loop (.seq (.seq (.ops [⟨.mov (.t 8), (some 38), none, true⟩,
         ⟨.bin .gtr (.t 38) (.c (.int .u64 0)), (some 39), none, true⟩,
         ⟨.mov (.t 39), (some 40), none, true⟩,
         ⟨.mov (.t 0), (some 41), (some (40, true)), true⟩,
         ⟨.call (.f 69) [(.t 41)], (some 42), (some (40, true)), false⟩,
         ⟨.bin .eql (.t 42) (.c (.int .i64 0)), (some 43), (some (40, true)), true⟩,
         ⟨.pick (.t 40) (.t 43) (.c (.bool false)), (some 44), none, true⟩])
      (.cond (.t 44)
       (.skip)
       (.exit 0)))
     (.seq (.block 1 (.opsD [⟨.fieldAddr 4 (.t 7), (some 47), none, true⟩,
         ⟨.loadOf none (.t 47) (.t 7), (some 48), none, false⟩,
         ⟨.mov (.t 0), (some 49), none, true⟩,
         ⟨.mov (.t 1), (some 50), none, true⟩,
         ⟨.mov (.t 2), (some 51), none, true⟩,
         ⟨.bin .add (.t 51) (.c (.int .i64 1)), (some 52), none, true⟩,
         ⟨.callNe (.f 66) [(.t 49), (.t 50), (.t 52)] [(.t 7)], (some 53), none, false⟩,
         ⟨.buildSlice 5 [(.int .i64 0), (.int .i64 0), (.str []), (.int .i64 0), .nilsl] 1 [(0, (.t 53))] false, (some 54), none, true⟩,
         ⟨.append 5 64 false (.t 48) (.t 54), (some 55), none, false⟩,
         ⟨.fieldAddr 4 (.t 7), (some 56), none, true⟩,
         ⟨.store 1 (.t 56) (.t 55), none, none, false⟩]))
     (.ops [⟨.mov (.t 8), (some 45), none, true⟩,
       ⟨.bin .sub (.t 45) (.c (.int .u64 1)), (some 46), none, true⟩,
       ⟨.mov (.t 46), (some 8), none, true⟩]))))))
  (.seq (.seq (.ops [⟨.mov (.t 0), (some 57), none, true⟩,
      ⟨.call (.f 69) [(.t 57)], (some 58), none, false⟩,
      ⟨.bin .neq (.t 58) (.c (.int .i64 0)), (some 59), none, true⟩])
   (.cond (.t 59)
    (.seq (.ops [⟨.build [(.int .i64 0), (.int .i64 0), (.str []), (.int .i64 0), .nilsl] [], (some 60), none, true⟩,
        ⟨.store 5 (.t 6) (.t 60), none, none, false⟩])
     (.ret))
    (.skip)))
  (.seq (.ops [⟨.load (some 5) (.t 7), (some 61), none, false⟩,
     ⟨.store 5 (.t 6) (.t 61), none, none, false⟩])
  (.ret)))))))
theorem st66n : stmOf Tryd.prog 66 p66n = some (s66n, [.cell 6 (some 5)], 62) := by kernel_rfl

def nd0 : Nd := .mk 0 0 [] 0 []
/-- So many kids, one behind the other. -/
def takeL (g : Rd → Int → Nd × Rd × Int) : Nat → Rd → Int → List Nd → List Nd × Rd × Int
  | 0, r, left, acc => (acc, r, left)
  | c + 1, r, left, acc => if r.err = 0 then takeL g c (g r left).2.1 (g r left).2.2 (acc ++ [(g r left).1]) else (acc, r, left)
/-- A reader ahead of a node: what stands ahead of its kids. -/
def headF (r : Rd) (left deep : Int) : Rd := if left - 1 < 0 ∨ 144 < deep then rFail 3 r else r
def hk (r : Rd) (left deep : Int) : Nat × Rd := rNumber 1 (headF r left deep)
def ht (r : Rd) (left deep : Int) : Nat × Rd := rNumber 1 (hk r left deep).2
def hs (r : Rd) (left deep : Int) : List UInt8 × Rd := rText 64 (ht r left deep).2
def hn (r : Rd) (left deep : Int) : Nat × Rd := rNumber 8 (hs r left deep).2
def hc (r : Rd) (left deep : Int) : Nat × Rd := rNumber 1 (hn r left deep).2
def finF (r : Rd) (left deep : Int) (z : List Nd × Rd × Int) : Nd × Rd × Int :=
  (if z.2.1.err = 0 then .mk (hk r left deep).1 (ht r left deep).1 (hs r left deep).1 (IntKind.i64.wrap ((hn r left deep).1 : Int)) z.1 else nd0, z.2.1, z.2.2)
def takeF : Nat → Rd → Int → Int → Nd × Rd × Int
  | 0, r, left, deep => (nd0, r, left)
  | f + 1, r, left, deep => finF r left deep (takeL (fun r l => takeF f r l (deep + 1)) (hc r left deep).1 (hc r left deep).2 (left - 1) [])
def c66n (f : Nat) (args : List D) (h : AHeap) (K : D → AHeap → Prop) : Prop := ∃ (id lid : Nat) (r : Rd) (left deep : Int), args = [.ptr id 1 0, .ptr lid 1 0, .int .i64 deep] ∧ (id ≠ lid ∧ h.f id = some (.cells (encR r)) ∧ h.f lid = some (.cells [.int .i64 left]) ∧ 0 ≤ left ∧ left < f ∧ left ≤ 1000000 ∧ 0 ≤ deep ∧ deep ≤ 1000) ∧ K (.agg (takeF f r left deep).1.enc) ((h.set id (.cells (encR (takeF f r left deep).2.1))).set lid (.cells [.int .i64 (takeF f r left deep).2.2]))
theorem c66n_mono (f : Nat) (args : List D) (h : AHeap) (K K' : D → AHeap → Prop) (hk : ∀ d h, K d h → K' d h) (c : c66n f args h K) : c66n f args h K' := by
  obtain ⟨id, lid, r, left, deep, hE, hP, hK⟩ := c
  exact ⟨id, lid, r, left, deep, hE, hP, hk _ _ hK⟩
/-- Where no error is, so many nodes may still come. -/
theorem fail_err {e : Int} (he : e ≠ 0) (r : Rd) : (rFail e r).err ≠ 0 := by unfold rFail; split <;> simp_all
theorem bytes_err {n : Int} {r : Rd} (h : (rBytes n r).2.err = 0) : r.err = 0 := by
  unfold rBytes at h
  by_cases c : r.err = 0
  · exact c
  · exfalso
    have f1 : rFail 1 r = r := by unfold rFail; rw [if_neg (fun k => c k.1)]
    have f4 : rFail 4 r = r := by unfold rFail; rw [if_neg (fun k => c k.1)]
    simp only [f1, f4, ite_self, c, if_false] at h
theorem number_err {n : Int} {r : Rd} (h : (rNumber n r).2.err = 0) : r.err = 0 := bytes_err h
theorem text_err {n : Int} {r : Rd} (h : (rText n r).2.err = 0) : r.err = 0 := by
  unfold rText at h
  have h1 := bytes_err h
  unfold rCount at h1
  split at h1
  · exact absurd h1 (fail_err (by decide) _)
  · exact number_err h1
theorem takeL_left {g : Rd → Int → Nd × Rd × Int} (hg : ∀ r l, 0 ≤ l → (g r l).2.1.err = 0 → 0 ≤ (g r l).2.2) (hl : ∀ r l, (g r l).2.2 ≤ l) : ∀ (c : Nat) (r : Rd) (left : Int) (acc : List Nd), (r.err = 0 → 0 ≤ left) → (((takeL g c r left acc).2.1.err = 0 → 0 ≤ (takeL g c r left acc).2.2) ∧ (takeL g c r left acc).2.2 ≤ left)
  | 0, r, left, acc, h => ⟨h, by simp [takeL]⟩
  | c + 1, r, left, acc, h => by
    unfold takeL
    by_cases e : r.err = 0
    · rw [if_pos e]
      have := takeL_left hg hl c (g r left).2.1 (g r left).2.2 (acc ++ [(g r left).1]) (hg r left (h e))
      exact ⟨this.1, Int.le_trans this.2 (hl r left)⟩
    · rw [if_neg e]; exact ⟨h, Int.le_refl _⟩
theorem head_err {r : Rd} {left deep : Int} (h : (hc r left deep).2.err = 0) : 0 ≤ left - 1 := by
  have := number_err (number_err (text_err (number_err (number_err h))))
  unfold headF at this
  split at this
  · exact absurd this (fail_err (by decide) _)
  · omega
theorem takeF_left : ∀ (f : Nat) (r : Rd) (left deep : Int), (0 ≤ left → (takeF f r left deep).2.1.err = 0 → 0 ≤ (takeF f r left deep).2.2) ∧ (takeF f r left deep).2.2 ≤ left
  | 0, r, left, deep => ⟨fun h _ => h, by simp [takeF]⟩
  | f + 1, r, left, deep => by
    have ih := fun r l => takeF_left f r l (deep + 1)
    obtain ⟨a1, a2⟩ := takeL_left (g := fun r l => takeF f r l (deep + 1)) (fun r l h1 h2 => (ih r l).1 h1 h2) (fun r l => (ih r l).2) (hc r left deep).1 (hc r left deep).2 (left - 1) [] head_err
    unfold takeF finF
    generalize takeL (fun r l => takeF f r l (deep + 1)) (hc r left deep).1 (hc r left deep).2 (left - 1) [] = z at *
    exact ⟨fun _ => a1, by simp only; omega⟩
set_option maxHeartbeats 4000000 in
theorem take_c (f : Nat) (hT : (tb38n.addW 66 (c66n f) (c66n_mono f)).ok Tryd.prog)
    (h : AHeap) (id lid : Nat) (r : Rd) (left deep : Int) (hid : id ≠ lid ∧ h.f id = some (.cells (encR r)) ∧ h.f lid = some (.cells [.int .i64 left]) ∧ 0 ≤ left ∧ left < (f + 1 : Nat) ∧ left ≤ 1000000 ∧ 0 ≤ deep ∧ deep ≤ 1000) :
    ACalls Tryd.prog 66 [.ptr id 1 0, .ptr lid 1 0, .int .i64 deep] h fun o h' => ∃ d, o = .ret d ∧ d = .agg (takeF (f + 1) r left deep).1.enc ∧ h' = (h.set id (.cells (encR (takeF (f + 1) r left deep).2.1))).set lid (.cells [.int .i64 (takeF (f + 1) r left deep).2.2]) := by
  obtain ⟨n0, hid, hlid, l0, l1, l2, d0, d1⟩ := hid
  have n0' : ¬ lid = id := fun e => n0 e.symm
  refine ACalls.runF hT st66n (by simp) ?_
  have hT_q : ∀ g args h K E, (tb38n.addW 66 (c66n f) (c66n_mono f)).c g args h K E = if g = 66 then c66n f args h K else tb38n.c g args h K E := fun g args h K E => rfl
  generalize tb38n.addW 66 (c66n f) (c66n_mono f) = TT at hT_q ⊢
  have wl : IntKind.i64.wrap (left - 1) = left - 1 := wrap_i64 (by omega) (by omega)
  simp (config := {maxSteps := 1000000}) only [s66n, hid, hlid, wl, i_callNe, Int.natCast_nonneg, Nat.le_refl, Int.le_refl, List.take_succ_cons, List.take_zero, decide_true, decide_false, Bool.and_false, Bool.false_and, zz, zzN, zzF, zzD, zzM, cond_true, cond_false, ↓reduceIte, Nat.reduceEqDiff, Nat.reduceBEq, Int.reduceLT, Int.reduceLE, Int.reduceToNat, Int.reduceEq, Int.reduceAdd, Int.reduceSub, Int.reduceMul, Int.reduceNeg, Nat.reduceMul, Nat.reduceSub, Nat.reduceLeDiff, Nat.reduceLT, Int.reduceGT, Int.reduceGE, Int.reduceBEq, Int.reduceBNe, reduceCtorEq, Nat.reduceAdd]
  intro i6 k6
  have n6 : ¬ i6 = id := fun e => by subst e; rw [hid] at k6; cases k6
  have n6' : ¬ id = i6 := fun e => n6 e.symm
  have m6 : ¬ i6 = lid := fun e => by subst e; rw [hlid] at k6; cases k6
  have m6' : ¬ lid = i6 := fun e => m6 e.symm
  have e1 : rNumber ((1 : Nat) : Int) (headF r left deep) = hk r left deep := rfl
  have e2 : rNumber ((1 : Nat) : Int) (hk r left deep).2 = ht r left deep := rfl
  have e3 : rText ((64 : Nat) : Int) (ht r left deep).2 = hs r left deep := rfl
  have e4 : rNumber ((8 : Nat) : Int) (hs r left deep).2 = hn r left deep := rfl
  have e5 : rNumber ((1 : Nat) : Int) (hn r left deep).2 = hc r left deep := rfl
  have b1 : (hk r left deep).1 < 256 := rNumber_lt 1 _
  have b2 : (ht r left deep).1 < 256 := rNumber_lt 1 _
  have b5 : (hc r left deep).1 < 256 := rNumber_lt 1 _
  have w1 : IntKind.i64.wrap ((hk r left deep).1 : Int) = (hk r left deep).1 := wrap_i64 (by omega) (by omega)
  have w2 : IntKind.i64.wrap ((ht r left deep).1 : Int) = (ht r left deep).1 := wrap_i64 (by omega) (by omega)
  have eF : takeF (f + 1) r left deep = finF r left deep (takeL (fun r l => takeF f r l (deep + 1)) (hc r left deep).1 (hc r left deep).2 (left - 1) []) := rfl
  have eD : (hc r left deep).2.err = 0 → 0 ≤ left - 1 := head_err
  have eG : (hc r left deep).2.err = 0 → deep ≤ 144 := by
    intro h
    have := number_err (number_err (text_err (number_err (number_err h))))
    unfold headF at this
    split at this
    · exact absurd this (fail_err (by decide) _)
    · omega
  rw [eF]
  unfold finF
  have hF : ((left - 1 < 0) = True ∨ ((left - 1 < 0) = False ∧ (deep > 144) = True)) → headF r left deep = rFail 3 r := by
    intro c
    unfold headF
    rw [if_pos]
    rcases c with c | c
    · exact .inl (of_eq_true c)
    · exact .inr (of_eq_true c.2)
  have hG : ((left - 1 < 0) = False ∧ (deep > 144) = False) → headF r left deep = r := by
    intro c
    unfold headF
    rw [if_neg]
    rintro (k | k)
    · exact of_eq_false c.1 k
    · exact of_eq_false c.2 k
  have cs : ((left - 1 < 0) = True ∨ ((left - 1 < 0) = False ∧ (deep > 144) = True)) ∨ ((left - 1 < 0) = False ∧ (deep > 144) = False) := by
    by_cases c1n : left - 1 < 0
    · exact .inl (.inl (eq_true c1n))
    · by_cases c2n : deep > 144
      · exact .inl (.inr ⟨eq_false c1n, eq_true c2n⟩)
      · exact .inr ⟨eq_false c1n, eq_false c2n⟩
  rcases cs with cs | cs
  · have hF := hF cs
    rcases cs with g1 | ⟨g1, g2⟩
    · simp (config := {maxSteps := 1000000}) only [g1, hid, hlid, wl, n0, n0', n6, n6', m6, m6', hT_q, enc_unnil, tb100n_e, tb38n_e, i_callNe, Int.natCast_nonneg, Nat.le_refl, Int.le_refl, List.take_succ_cons, List.take_zero, decide_true, decide_false, Bool.and_false, Bool.false_and, zz, zzN, zzF, zzD, zzM, cond_true, cond_false, ↓reduceIte, Nat.reduceEqDiff, Nat.reduceBEq, Int.reduceLT, Int.reduceLE, Int.reduceToNat, Int.reduceEq, Int.reduceAdd, Int.reduceSub, Int.reduceMul, Int.reduceNeg, Nat.reduceMul, Nat.reduceSub, Nat.reduceLeDiff, Nat.reduceLT, Int.reduceGT, Int.reduceGE, Int.reduceBEq, Int.reduceBNe, reduceCtorEq, Nat.reduceAdd]
      refine ⟨id, r, 3, rfl, by simp [n6', n0, hid], ?_⟩
      rw [← hF]
      simp (config := {maxSteps := 1000000}) only [g1, hid, hlid, wl, n0, n0', n6, n6', m6, m6', hT_q, enc_unnil, tb100n_e, tb38n_e, i_callNe, Int.natCast_nonneg, Nat.le_refl, Int.le_refl, List.take_succ_cons, List.take_zero, decide_true, decide_false, Bool.and_false, Bool.false_and, zz, zzN, zzF, zzD, zzM, cond_true, cond_false, ↓reduceIte, Nat.reduceEqDiff, Nat.reduceBEq, Int.reduceLT, Int.reduceLE, Int.reduceToNat, Int.reduceEq, Int.reduceAdd, Int.reduceSub, Int.reduceMul, Int.reduceNeg, Nat.reduceMul, Nat.reduceSub, Nat.reduceLeDiff, Nat.reduceLT, Int.reduceGT, Int.reduceGE, Int.reduceBEq, Int.reduceBNe, reduceCtorEq, Nat.reduceAdd]
      refine ⟨id, headF r left deep, 1, rfl, ⟨by simp [n6', n0, hid], by omega⟩, ?_⟩
      rw [e1]
      generalize headF r left deep = rh at *
      simp (config := {maxSteps := 1000000}) only [hlid, w1, n0, n0', n6, n6', m6, m6', hT_q, enc_unnil, tb100n_e, tb38n_e, i_callNe, Int.natCast_nonneg, Nat.le_refl, Int.le_refl, List.take_succ_cons, List.take_zero, decide_true, decide_false, Bool.and_false, Bool.false_and, zz, zzN, zzF, zzD, zzM, cond_true, cond_false, ↓reduceIte, Nat.reduceEqDiff, Nat.reduceBEq, Int.reduceLT, Int.reduceLE, Int.reduceToNat, Int.reduceEq, Int.reduceAdd, Int.reduceSub, Int.reduceMul, Int.reduceNeg, Nat.reduceMul, Nat.reduceSub, Nat.reduceLeDiff, Nat.reduceLT, Int.reduceGT, Int.reduceGE, Int.reduceBEq, Int.reduceBNe, reduceCtorEq, Nat.reduceAdd]
      refine ⟨id, (hk r left deep).2, 1, rfl, ⟨by simp, by omega⟩, ?_⟩
      rw [e2]
      simp (config := {maxSteps := 1000000}) only [hlid, w1, w2, n0, n0', n6, n6', m6, m6', hT_q, enc_unnil, tb100n_e, tb38n_e, i_callNe, Int.natCast_nonneg, Nat.le_refl, Int.le_refl, List.take_succ_cons, List.take_zero, decide_true, decide_false, Bool.and_false, Bool.false_and, zz, zzN, zzF, zzD, zzM, cond_true, cond_false, ↓reduceIte, Nat.reduceEqDiff, Nat.reduceBEq, Int.reduceLT, Int.reduceLE, Int.reduceToNat, Int.reduceEq, Int.reduceAdd, Int.reduceSub, Int.reduceMul, Int.reduceNeg, Nat.reduceMul, Nat.reduceSub, Nat.reduceLeDiff, Nat.reduceLT, Int.reduceGT, Int.reduceGE, Int.reduceBEq, Int.reduceBNe, reduceCtorEq, Nat.reduceAdd]
      refine ⟨id, (ht r left deep).2, 64, rfl, ⟨by simp, by omega⟩, ?_⟩
      rw [e3]
      simp (config := {maxSteps := 1000000}) only [hlid, w1, w2, n0, n0', n6, n6', m6, m6', hT_q, enc_unnil, tb100n_e, tb38n_e, i_callNe, Int.natCast_nonneg, Nat.le_refl, Int.le_refl, List.take_succ_cons, List.take_zero, decide_true, decide_false, Bool.and_false, Bool.false_and, zz, zzN, zzF, zzD, zzM, cond_true, cond_false, ↓reduceIte, Nat.reduceEqDiff, Nat.reduceBEq, Int.reduceLT, Int.reduceLE, Int.reduceToNat, Int.reduceEq, Int.reduceAdd, Int.reduceSub, Int.reduceMul, Int.reduceNeg, Nat.reduceMul, Nat.reduceSub, Nat.reduceLeDiff, Nat.reduceLT, Int.reduceGT, Int.reduceGE, Int.reduceBEq, Int.reduceBNe, reduceCtorEq, Nat.reduceAdd]
      refine ⟨id, (hs r left deep).2, 8, rfl, ⟨by simp, by omega⟩, ?_⟩
      rw [e4]
      simp (config := {maxSteps := 1000000}) only [hlid, w1, w2, n0, n0', n6, n6', m6, m6', hT_q, enc_unnil, tb100n_e, tb38n_e, i_callNe, Int.natCast_nonneg, Nat.le_refl, Int.le_refl, List.take_succ_cons, List.take_zero, decide_true, decide_false, Bool.and_false, Bool.false_and, zz, zzN, zzF, zzD, zzM, cond_true, cond_false, ↓reduceIte, Nat.reduceEqDiff, Nat.reduceBEq, Int.reduceLT, Int.reduceLE, Int.reduceToNat, Int.reduceEq, Int.reduceAdd, Int.reduceSub, Int.reduceMul, Int.reduceNeg, Nat.reduceMul, Nat.reduceSub, Nat.reduceLeDiff, Nat.reduceLT, Int.reduceGT, Int.reduceGE, Int.reduceBEq, Int.reduceBNe, reduceCtorEq, Nat.reduceAdd]
      intro i7 p1n p1n' p2n p2n' p3n p3n' k7
      refine ⟨id, (hn r left deep).2, 1, rfl, ⟨by simp [p1n'], by omega⟩, ?_⟩
      rw [e5]
      generalize hk r left deep = vk at *
      generalize ht r left deep = vt at *
      generalize hs r left deep = vs at *
      generalize hn r left deep = vn at *
      generalize hc r left deep = vq at *
      simp (config := {maxSteps := 1000000}) only [hlid, w1, w2, n0, n0', n6, n6', m6, m6', p1n, p1n', p2n, p2n', p3n, p3n', hT_q, enc_unnil, tb100n_e, tb38n_e, i_callNe, Int.natCast_nonneg, Nat.le_refl, Int.le_refl, List.take_succ_cons, List.take_zero, decide_true, decide_false, Bool.and_false, Bool.false_and, zz, zzN, zzF, zzD, zzM, cond_true, cond_false, ↓reduceIte, Nat.reduceEqDiff, Nat.reduceBEq, Int.reduceLT, Int.reduceLE, Int.reduceToNat, Int.reduceEq, Int.reduceAdd, Int.reduceSub, Int.reduceMul, Int.reduceNeg, Nat.reduceMul, Nat.reduceSub, Nat.reduceLeDiff, Nat.reduceLT, Int.reduceGT, Int.reduceGE, Int.reduceBEq, Int.reduceBNe, reduceCtorEq, Nat.reduceAdd]
      generalize hR : takeL (fun r l => takeF f r l (deep + 1)) vq.1 vq.2 (left - 1) [] = R
      refine run_loop (X := Nat × Rd × Int × List Nd × Nat) (fun x => [(0, .ptr id 1 0), (1, .ptr lid 1 0), (2, .int .i64 deep), (6, .ptr i6 1 0), (7, .ptr i7 1 0), (8, .int .u64 x.1)])
        (fun x => ownH ((((h.set i6 (.cells [.int .i64 0, .int .i64 0, .str [], .int .i64 0, .nilsl])).set lid (.cells [.int .i64 x.2.2.1])).set i7 (.cells [.int .i64 vk.1, .int .i64 vt.1, .str vs.1, .int .i64 (IntKind.i64.wrap vn.1), ownD x.2.2.2.2 x.2.2.2.1.length])).set id (.cells (encR x.2.1))) x.2.2.2.2 5 (Nd.encs x.2.2.2.1)) (fun x => x.1)
        (fun x => takeL (fun r l => takeF f r l (deep + 1)) x.1 x.2.1 x.2.2.1 x.2.2.2.1 = R ∧ x.2.2.2.1.length + x.1 ≤ 255 ∧ (x.2.1.err = 0 → 0 ≤ x.2.2.1 ∧ deep ≤ 144) ∧ x.2.2.1 ≤ left - 1 ∧ (x.2.2.2.1 ≠ [] → x.2.2.2.2 ≠ id ∧ x.2.2.2.2 ≠ lid ∧ x.2.2.2.2 ≠ i6 ∧ x.2.2.2.2 ≠ i7 ∧ h.f x.2.2.2.2 = none)) (vq.1, vq.2, left - 1, [], 0) ⟨hR, by simp only [List.length_nil]; omega, fun e => ⟨eD e, eG e⟩, Int.le_refl _, fun h => absurd rfl h⟩ ?_ ?_ ?_
      · simp only [i_callNe, Int.natCast_nonneg, Nat.le_refl, Int.le_refl, List.take_succ_cons, List.take_zero, decide_true, decide_false, Bool.and_false, Bool.false_and, zz, zzN, zzF, zzD, zzM, cond_true, cond_false, ↓reduceIte, Nat.reduceEqDiff, Nat.reduceBEq, Int.reduceLT, Int.reduceLE, Int.reduceToNat, Int.reduceEq, Int.reduceAdd, Int.reduceSub, Int.reduceMul, Int.reduceNeg, Nat.reduceMul, Nat.reduceSub, Nat.reduceLeDiff, Nat.reduceLT, Int.reduceGT, Int.reduceGE, Int.reduceBEq, Int.reduceBNe, reduceCtorEq, Nat.reduceAdd]
      · simp only [encs_nil, ownH_nil, List.length_nil, ownD_zero]
        exact AHeap.sub_X (by repeat' first | with_reducible exact AHeap.subX_refl | with_reducible exact AHeap.subX_emp | refine AHeap.subX_l (by simp [n0, n0', n6, n6', m6, m6', p1n, p1n', p2n, p2n', p3n, p3n']) ?_ | refine AHeap.subX_r (by simp [n0, n0', n6, n6', m6, m6', p1n, p1n', p2n, p2n', p3n, p3n']) ?_)
      rintro ⟨c, rd, L, acc, rr⟩ Q ⟨j1, j2, j3, j4, j5⟩ hQ
      simp only at j1 j2 j3 j4 j5 hQ ⊢
      have hacc := len_encs acc
      have jd : Nd.encs acc ≠ [] → rr ≠ id ∧ rr ≠ lid ∧ rr ≠ i6 ∧ rr ≠ i7 ∧ h.f rr = none := fun h => j5 (fun e => h (by rw [e, encs_nil]))
      have vid := ownH_f (h := ((((h.set i6 (.cells [.int .i64 0, .int .i64 0, .str [], .int .i64 0, .nilsl])).set lid (.cells [.int .i64 L])).set i7 (.cells [.int .i64 vk.1, .int .i64 vt.1, .str vs.1, .int .i64 (IntKind.i64.wrap vn.1), ownD rr acc.length])).set id (.cells (encR rd)))) (r := rr) (sz := 5) (i := id) (fun h => (jd h).1)
      have vlid := ownH_f (h := ((((h.set i6 (.cells [.int .i64 0, .int .i64 0, .str [], .int .i64 0, .nilsl])).set lid (.cells [.int .i64 L])).set i7 (.cells [.int .i64 vk.1, .int .i64 vt.1, .str vs.1, .int .i64 (IntKind.i64.wrap vn.1), ownD rr acc.length])).set id (.cells (encR rd)))) (r := rr) (sz := 5) (i := lid) (fun h => (jd h).2.1)
      have v6 := ownH_f (h := ((((h.set i6 (.cells [.int .i64 0, .int .i64 0, .str [], .int .i64 0, .nilsl])).set lid (.cells [.int .i64 L])).set i7 (.cells [.int .i64 vk.1, .int .i64 vt.1, .str vs.1, .int .i64 (IntKind.i64.wrap vn.1), ownD rr acc.length])).set id (.cells (encR rd)))) (r := rr) (sz := 5) (i := i6) (fun h => (jd h).2.2.1)
      have v7 := ownH_f (h := ((((h.set i6 (.cells [.int .i64 0, .int .i64 0, .str [], .int .i64 0, .nilsl])).set lid (.cells [.int .i64 L])).set i7 (.cells [.int .i64 vk.1, .int .i64 vt.1, .str vs.1, .int .i64 (IntKind.i64.wrap vn.1), ownD rr acc.length])).set id (.cells (encR rd)))) (r := rr) (sz := 5) (i := i7) (fun h => (jd h).2.2.2.1)
      have vold : ∀ j o, h.f j = some o → ¬ j = id → ¬ j = lid → (ownH ((((h.set i6 (.cells [.int .i64 0, .int .i64 0, .str [], .int .i64 0, .nilsl])).set lid (.cells [.int .i64 L])).set i7 (.cells [.int .i64 vk.1, .int .i64 vt.1, .str vs.1, .int .i64 (IntKind.i64.wrap vn.1), ownD rr acc.length])).set id (.cells (encR rd))) rr 5 (Nd.encs acc)).f j = some o := by
        intro j o e a b
        have j6 : ¬ j = i6 := fun q => by subst q; rw [e] at k6; cases k6
        have j7 : ¬ j = i7 := fun q => by subst q; rw [e] at k7; cases k7
        rw [ownH_f (fun hh q => by have := (jd hh).2.2.2.2; subst q; rw [e] at this; cases this)]
        simp only [AHeap.set_f, a, b, j6, j7, ↓reduceIte, e]
      have vr := fun hne => ownH_r (h := ((((h.set i6 (.cells [.int .i64 0, .int .i64 0, .str [], .int .i64 0, .nilsl])).set lid (.cells [.int .i64 L])).set i7 (.cells [.int .i64 vk.1, .int .i64 vt.1, .str vs.1, .int .i64 (IntKind.i64.wrap vn.1), ownD rr acc.length])).set id (.cells (encR rd)))) (r := rr) (sz := 5) (xs := Nd.encs acc) hne
      simp only [AHeap.set_f, n0, n0', n6, n6', m6, m6', p1n, p1n', p2n, p2n', p3n, p3n', if_true, if_false, ↓reduceIte] at vid vlid v6 v7
      generalize hO : ownH ((((h.set i6 (.cells [.int .i64 0, .int .i64 0, .str [], .int .i64 0, .nilsl])).set lid (.cells [.int .i64 L])).set i7 (.cells [.int .i64 vk.1, .int .i64 vt.1, .str vs.1, .int .i64 (IntKind.i64.wrap vn.1), ownD rr acc.length])).set id (.cells (encR rd))) rr 5 (Nd.encs acc) = O at *
      have hcase : (c = 0 ∨ rd.err ≠ 0) ∨ (∃ c', c = c' + 1 ∧ rd.err = 0) := by
        cases c with
        | zero => exact .inl (.inl rfl)
        | succ c => by_cases e : rd.err = 0
                    · exact .inr ⟨c, rfl, e⟩
                    · exact .inl (.inr e)
      rcases hcase with hcase | ⟨c, rfl, ce⟩
      · have hR2 : R = (acc, rd, L) := by
          rw [← j1]
          rcases hcase with e | e
          · rw [e]; rfl
          · cases c with
            | zero => rfl
            | succ c => unfold takeL; rw [if_neg e]
        subst hR2
        cases c with
        | zero =>
          have g8 : (((0 : Nat) : Int) > 0) = False := by simp
          simp (config := {maxSteps := 1000000}) only [g8, hT_q, enc_unnil, tb100n_e, tb38n_e, i_callNe, Int.natCast_nonneg, Nat.le_refl, Int.le_refl, List.take_succ_cons, List.take_zero, decide_true, decide_false, Bool.and_false, Bool.false_and, zz, zzN, zzF, zzD, zzM, cond_true, cond_false, ↓reduceIte, Nat.reduceEqDiff, Nat.reduceBEq, Int.reduceLT, Int.reduceLE, Int.reduceToNat, Int.reduceEq, Int.reduceAdd, Int.reduceSub, Int.reduceMul, Int.reduceNeg, Nat.reduceMul, Nat.reduceSub, Nat.reduceLeDiff, Nat.reduceLT, Int.reduceGT, Int.reduceGE, Int.reduceBEq, Int.reduceBNe, reduceCtorEq, Nat.reduceAdd]
          refine ⟨id, rd, rfl, vid, ?_⟩
          by_cases ce : rd.err = 0
          · have g9 : (rd.err != 0) = false := by simpa using ce
            by_cases h0 : acc = []
            · subst h0
              simp only [encs_nil, List.length_nil, ownD_zero] at *
              simp (config := {maxSteps := 1000000}) only [g9, v6, v7, vid, vlid, m6, m6', p1n, p1n', p2n, p2n', p3n, p3n', hT_q, enc_unnil, tb100n_e, tb38n_e, i_callNe, Int.natCast_nonneg, Nat.le_refl, Int.le_refl, List.take_succ_cons, List.take_zero, decide_true, decide_false, Bool.and_false, Bool.false_and, zz, zzN, zzF, zzD, zzM, cond_true, cond_false, ↓reduceIte, Nat.reduceEqDiff, Nat.reduceBEq, Int.reduceLT, Int.reduceLE, Int.reduceToNat, Int.reduceEq, Int.reduceAdd, Int.reduceSub, Int.reduceMul, Int.reduceNeg, Nat.reduceMul, Nat.reduceSub, Nat.reduceLeDiff, Nat.reduceLT, Int.reduceGT, Int.reduceGE, Int.reduceBEq, Int.reduceBNe, reduceCtorEq, Nat.reduceAdd]
              refine ⟨_, ?_, ?_, rfl⟩
              · intro j o e
                have e6 : ¬ i6 = j := fun q => by
                  subst q
                  simp only [AHeap.set_f, m6, n6, ↓reduceIte] at e
                  rw [k6] at e
                  cases e
                have e6' : ¬ j = i6 := fun q => e6 q.symm
                rw [AHeap.set_f, if_neg e6']
                by_cases q1n : j = lid
                · subst q1n
                  rw [AHeap.set_f, if_pos rfl] at e
                  rw [vlid]; exact e
                · by_cases q2n : j = id
                  · subst q2n
                    rw [AHeap.set_f, if_neg q1n, AHeap.set_f, if_pos rfl] at e
                    rw [vid]; exact e
                  · rw [AHeap.set_f, if_neg q1n, AHeap.set_f, if_neg q2n] at e
                    exact vold j o e q2n q1n
              · rw [if_pos ce, enc_mk, encs_nil]
            · have h1 := len_encs acc
              have h2 : acc.length ≠ 0 := fun e => h0 (List.length_eq_zero_iff.1 e)
              have vr := vr (encs_ne h0)
              rw [h1] at vr
              rw [ownD_pos h2] at v7
              obtain ⟨j51, j52, j53, j54, j55⟩ := j5 h0
              have r6 : ¬ rr = i6 := j53
              have r6' : ¬ i6 = rr := fun e => r6 e.symm
              have tk : (Nd.encs acc).take acc.length = Nd.encs acc := List.take_of_length_le (by omega)
              simp (config := {maxSteps := 1000000}) only [g9, v6, v7, vid, vlid, vr, h1, tk, r6, r6', m6, m6', p1n, p1n', p2n, p2n', p3n, p3n', hT_q, enc_unnil, tb100n_e, tb38n_e, i_callNe, Int.natCast_nonneg, Nat.le_refl, Int.le_refl, List.take_succ_cons, List.take_zero, decide_true, decide_false, Bool.and_false, Bool.false_and, zz, zzN, zzF, zzD, zzM, cond_true, cond_false, ↓reduceIte, Nat.reduceEqDiff, Nat.reduceBEq, Int.reduceLT, Int.reduceLE, Int.reduceToNat, Int.reduceEq, Int.reduceAdd, Int.reduceSub, Int.reduceMul, Int.reduceNeg, Nat.reduceMul, Nat.reduceSub, Nat.reduceLeDiff, Nat.reduceLT, Int.reduceGT, Int.reduceGE, Int.reduceBEq, Int.reduceBNe, reduceCtorEq, Nat.reduceAdd]
              refine ⟨_, ?_, ?_, rfl⟩
              · intro j o e
                have er : ¬ rr = j := fun q => by
                  subst q
                  simp only [AHeap.set_f, j51, j52, ↓reduceIte] at e
                  rw [j55] at e
                  cases e
                have er' : ¬ j = rr := fun q => er q.symm
                rw [AHeap.set_f, if_neg er']
                have e6 : ¬ i6 = j := fun q => by
                  subst q
                  simp only [AHeap.set_f, m6, n6, ↓reduceIte] at e
                  rw [k6] at e
                  cases e
                have e6' : ¬ j = i6 := fun q => e6 q.symm
                rw [AHeap.set_f, if_neg e6']
                by_cases q1n : j = lid
                · subst q1n
                  rw [AHeap.set_f, if_pos rfl] at e
                  rw [vlid]; exact e
                · by_cases q2n : j = id
                  · subst q2n
                    rw [AHeap.set_f, if_neg q1n, AHeap.set_f, if_pos rfl] at e
                    rw [vid]; exact e
                  · rw [AHeap.set_f, if_neg q1n, AHeap.set_f, if_neg q2n] at e
                    exact vold j o e q2n q1n
              · rw [if_pos ce, enc_mk]
          · have g9 : (rd.err != 0) = true := by simpa using ce
            simp (config := {maxSteps := 1000000}) only [g9, v6, v7, vid, vlid, m6, m6', p1n, p1n', p2n, p2n', p3n, p3n', hT_q, enc_unnil, tb100n_e, tb38n_e, i_callNe, Int.natCast_nonneg, Nat.le_refl, Int.le_refl, List.take_succ_cons, List.take_zero, decide_true, decide_false, Bool.and_false, Bool.false_and, zz, zzN, zzF, zzD, zzM, cond_true, cond_false, ↓reduceIte, Nat.reduceEqDiff, Nat.reduceBEq, Int.reduceLT, Int.reduceLE, Int.reduceToNat, Int.reduceEq, Int.reduceAdd, Int.reduceSub, Int.reduceMul, Int.reduceNeg, Nat.reduceMul, Nat.reduceSub, Nat.reduceLeDiff, Nat.reduceLT, Int.reduceGT, Int.reduceGE, Int.reduceBEq, Int.reduceBNe, reduceCtorEq, Nat.reduceAdd]
            refine ⟨_, ?_, ?_, rfl⟩
            · intro j o e
              have e6 : ¬ i6 = j := fun q => by
                subst q
                simp only [AHeap.set_f, m6, n6, ↓reduceIte] at e
                rw [k6] at e
                cases e
              have e6' : ¬ j = i6 := fun q => e6 q.symm
              rw [AHeap.set_f, if_neg e6']
              by_cases q1n : j = lid
              · subst q1n
                rw [AHeap.set_f, if_pos rfl] at e
                rw [vlid]; exact e
              · by_cases q2n : j = id
                · subst q2n
                  rw [AHeap.set_f, if_neg q1n, AHeap.set_f, if_pos rfl] at e
                  rw [vid]; exact e
                · rw [AHeap.set_f, if_neg q1n, AHeap.set_f, if_neg q2n] at e
                  exact vold j o e q2n q1n
            · rw [if_neg ce, nd0, enc_mk, encs_nil]
        | succ c =>
          have ce : rd.err ≠ 0 := by
            rcases hcase with e | e
            · simp at e
            · exact e
          have g8 : (((c + 1 : Nat) : Int) > 0) = True := eq_true (by omega)
          have g9 : (rd.err == 0) = false := by simpa using ce
          simp (config := {maxSteps := 1000000}) only [g8, hT_q, enc_unnil, tb100n_e, tb38n_e, i_callNe, Int.natCast_nonneg, Nat.le_refl, Int.le_refl, List.take_succ_cons, List.take_zero, decide_true, decide_false, Bool.and_false, Bool.false_and, zz, zzN, zzF, zzD, zzM, cond_true, cond_false, ↓reduceIte, Nat.reduceEqDiff, Nat.reduceBEq, Int.reduceLT, Int.reduceLE, Int.reduceToNat, Int.reduceEq, Int.reduceAdd, Int.reduceSub, Int.reduceMul, Int.reduceNeg, Nat.reduceMul, Nat.reduceSub, Nat.reduceLeDiff, Nat.reduceLT, Int.reduceGT, Int.reduceGE, Int.reduceBEq, Int.reduceBNe, reduceCtorEq, Nat.reduceAdd]
          refine ⟨id, rd, rfl, vid, ?_⟩
          simp (config := {maxSteps := 1000000}) only [g9, hT_q, enc_unnil, tb100n_e, tb38n_e, i_callNe, Int.natCast_nonneg, Nat.le_refl, Int.le_refl, List.take_succ_cons, List.take_zero, decide_true, decide_false, Bool.and_false, Bool.false_and, zz, zzN, zzF, zzD, zzM, cond_true, cond_false, ↓reduceIte, Nat.reduceEqDiff, Nat.reduceBEq, Int.reduceLT, Int.reduceLE, Int.reduceToNat, Int.reduceEq, Int.reduceAdd, Int.reduceSub, Int.reduceMul, Int.reduceNeg, Nat.reduceMul, Nat.reduceSub, Nat.reduceLeDiff, Nat.reduceLT, Int.reduceGT, Int.reduceGE, Int.reduceBEq, Int.reduceBNe, reduceCtorEq, Nat.reduceAdd]
          refine ⟨id, rd, rfl, vid, ?_⟩
          by_cases ce : rd.err = 0
          · have g9 : (rd.err != 0) = false := by simpa using ce
            by_cases h0 : acc = []
            · subst h0
              simp only [encs_nil, List.length_nil, ownD_zero] at *
              simp (config := {maxSteps := 1000000}) only [g9, v6, v7, vid, vlid, m6, m6', p1n, p1n', p2n, p2n', p3n, p3n', hT_q, enc_unnil, tb100n_e, tb38n_e, i_callNe, Int.natCast_nonneg, Nat.le_refl, Int.le_refl, List.take_succ_cons, List.take_zero, decide_true, decide_false, Bool.and_false, Bool.false_and, zz, zzN, zzF, zzD, zzM, cond_true, cond_false, ↓reduceIte, Nat.reduceEqDiff, Nat.reduceBEq, Int.reduceLT, Int.reduceLE, Int.reduceToNat, Int.reduceEq, Int.reduceAdd, Int.reduceSub, Int.reduceMul, Int.reduceNeg, Nat.reduceMul, Nat.reduceSub, Nat.reduceLeDiff, Nat.reduceLT, Int.reduceGT, Int.reduceGE, Int.reduceBEq, Int.reduceBNe, reduceCtorEq, Nat.reduceAdd]
              refine ⟨_, ?_, ?_, rfl⟩
              · intro j o e
                have e6 : ¬ i6 = j := fun q => by
                  subst q
                  simp only [AHeap.set_f, m6, n6, ↓reduceIte] at e
                  rw [k6] at e
                  cases e
                have e6' : ¬ j = i6 := fun q => e6 q.symm
                rw [AHeap.set_f, if_neg e6']
                by_cases q1n : j = lid
                · subst q1n
                  rw [AHeap.set_f, if_pos rfl] at e
                  rw [vlid]; exact e
                · by_cases q2n : j = id
                  · subst q2n
                    rw [AHeap.set_f, if_neg q1n, AHeap.set_f, if_pos rfl] at e
                    rw [vid]; exact e
                  · rw [AHeap.set_f, if_neg q1n, AHeap.set_f, if_neg q2n] at e
                    exact vold j o e q2n q1n
              · rw [if_pos ce, enc_mk, encs_nil]
            · have h1 := len_encs acc
              have h2 : acc.length ≠ 0 := fun e => h0 (List.length_eq_zero_iff.1 e)
              have vr := vr (encs_ne h0)
              rw [h1] at vr
              rw [ownD_pos h2] at v7
              obtain ⟨j51, j52, j53, j54, j55⟩ := j5 h0
              have r6 : ¬ rr = i6 := j53
              have r6' : ¬ i6 = rr := fun e => r6 e.symm
              have tk : (Nd.encs acc).take acc.length = Nd.encs acc := List.take_of_length_le (by omega)
              simp (config := {maxSteps := 1000000}) only [g9, v6, v7, vid, vlid, vr, h1, tk, r6, r6', m6, m6', p1n, p1n', p2n, p2n', p3n, p3n', hT_q, enc_unnil, tb100n_e, tb38n_e, i_callNe, Int.natCast_nonneg, Nat.le_refl, Int.le_refl, List.take_succ_cons, List.take_zero, decide_true, decide_false, Bool.and_false, Bool.false_and, zz, zzN, zzF, zzD, zzM, cond_true, cond_false, ↓reduceIte, Nat.reduceEqDiff, Nat.reduceBEq, Int.reduceLT, Int.reduceLE, Int.reduceToNat, Int.reduceEq, Int.reduceAdd, Int.reduceSub, Int.reduceMul, Int.reduceNeg, Nat.reduceMul, Nat.reduceSub, Nat.reduceLeDiff, Nat.reduceLT, Int.reduceGT, Int.reduceGE, Int.reduceBEq, Int.reduceBNe, reduceCtorEq, Nat.reduceAdd]
              refine ⟨_, ?_, ?_, rfl⟩
              · intro j o e
                have er : ¬ rr = j := fun q => by
                  subst q
                  simp only [AHeap.set_f, j51, j52, ↓reduceIte] at e
                  rw [j55] at e
                  cases e
                have er' : ¬ j = rr := fun q => er q.symm
                rw [AHeap.set_f, if_neg er']
                have e6 : ¬ i6 = j := fun q => by
                  subst q
                  simp only [AHeap.set_f, m6, n6, ↓reduceIte] at e
                  rw [k6] at e
                  cases e
                have e6' : ¬ j = i6 := fun q => e6 q.symm
                rw [AHeap.set_f, if_neg e6']
                by_cases q1n : j = lid
                · subst q1n
                  rw [AHeap.set_f, if_pos rfl] at e
                  rw [vlid]; exact e
                · by_cases q2n : j = id
                  · subst q2n
                    rw [AHeap.set_f, if_neg q1n, AHeap.set_f, if_pos rfl] at e
                    rw [vid]; exact e
                  · rw [AHeap.set_f, if_neg q1n, AHeap.set_f, if_neg q2n] at e
                    exact vold j o e q2n q1n
              · rw [if_pos ce, enc_mk]
          · have g9 : (rd.err != 0) = true := by simpa using ce
            simp (config := {maxSteps := 1000000}) only [g9, v6, v7, vid, vlid, m6, m6', p1n, p1n', p2n, p2n', p3n, p3n', hT_q, enc_unnil, tb100n_e, tb38n_e, i_callNe, Int.natCast_nonneg, Nat.le_refl, Int.le_refl, List.take_succ_cons, List.take_zero, decide_true, decide_false, Bool.and_false, Bool.false_and, zz, zzN, zzF, zzD, zzM, cond_true, cond_false, ↓reduceIte, Nat.reduceEqDiff, Nat.reduceBEq, Int.reduceLT, Int.reduceLE, Int.reduceToNat, Int.reduceEq, Int.reduceAdd, Int.reduceSub, Int.reduceMul, Int.reduceNeg, Nat.reduceMul, Nat.reduceSub, Nat.reduceLeDiff, Nat.reduceLT, Int.reduceGT, Int.reduceGE, Int.reduceBEq, Int.reduceBNe, reduceCtorEq, Nat.reduceAdd]
            refine ⟨_, ?_, ?_, rfl⟩
            · intro j o e
              have e6 : ¬ i6 = j := fun q => by
                subst q
                simp only [AHeap.set_f, m6, n6, ↓reduceIte] at e
                rw [k6] at e
                cases e
              have e6' : ¬ j = i6 := fun q => e6 q.symm
              rw [AHeap.set_f, if_neg e6']
              by_cases q1n : j = lid
              · subst q1n
                rw [AHeap.set_f, if_pos rfl] at e
                rw [vlid]; exact e
              · by_cases q2n : j = id
                · subst q2n
                  rw [AHeap.set_f, if_neg q1n, AHeap.set_f, if_pos rfl] at e
                  rw [vid]; exact e
                · rw [AHeap.set_f, if_neg q1n, AHeap.set_f, if_neg q2n] at e
                  exact vold j o e q2n q1n
            · rw [if_neg ce, nd0, enc_mk, encs_nil]
      · have g8 : (((c + 1 : Nat) : Int) > 0) = True := eq_true (by omega)
        have g9 : (rd.err == 0) = true := by simpa using ce
        simp (config := {maxSteps := 1000000}) only [g8, hT_q, enc_unnil, tb100n_e, tb38n_e, i_callNe, Int.natCast_nonneg, Nat.le_refl, Int.le_refl, List.take_succ_cons, List.take_zero, decide_true, decide_false, Bool.and_false, Bool.false_and, zz, zzN, zzF, zzD, zzM, cond_true, cond_false, ↓reduceIte, Nat.reduceEqDiff, Nat.reduceBEq, Int.reduceLT, Int.reduceLE, Int.reduceToNat, Int.reduceEq, Int.reduceAdd, Int.reduceSub, Int.reduceMul, Int.reduceNeg, Nat.reduceMul, Nat.reduceSub, Nat.reduceLeDiff, Nat.reduceLT, Int.reduceGT, Int.reduceGE, Int.reduceBEq, Int.reduceBNe, reduceCtorEq, Nat.reduceAdd]
        refine ⟨id, rd, rfl, vid, ?_⟩
        simp (config := {maxSteps := 1000000}) only [g9, v7, hT_q, enc_unnil, tb100n_e, tb38n_e, i_callNe, Int.natCast_nonneg, Nat.le_refl, Int.le_refl, List.take_succ_cons, List.take_zero, decide_true, decide_false, Bool.and_false, Bool.false_and, zz, zzN, zzF, zzD, zzM, cond_true, cond_false, ↓reduceIte, Nat.reduceEqDiff, Nat.reduceBEq, Int.reduceLT, Int.reduceLE, Int.reduceToNat, Int.reduceEq, Int.reduceAdd, Int.reduceSub, Int.reduceMul, Int.reduceNeg, Nat.reduceMul, Nat.reduceSub, Nat.reduceLeDiff, Nat.reduceLT, Int.reduceGT, Int.reduceGE, Int.reduceBEq, Int.reduceBNe, reduceCtorEq, Nat.reduceAdd]
        have wd : IntKind.i64.wrap (deep + 1) = deep + 1 := wrap_i64 (by omega) (by omega)
        obtain ⟨jL, jD⟩ := j3 ce
        rw [wd]
        refine ⟨id, lid, rd, L, deep + 1, rfl, ⟨n0, vid, vlid, jL, by omega, by omega, by omega, by omega⟩, ?_⟩
        have jl := takeF_left f rd L (deep + 1)
        unfold takeL at j1
        rw [if_pos ce] at j1
        generalize takeF f rd L (deep + 1) = z at *
        obtain ⟨x, rd', L'⟩ := z
        simp only [cellsD, enc_unnil] at jl j1 ⊢
        refine ⟨by simp only [AHeap.set_f, p1n, p2n, ↓reduceIte]; exact v7, ⟨len_enc x, enc_ok x⟩, ?_⟩
        rw [← hacc]
        refine app_own (fun hne => ?_) ⟨len_enc x, enc_ok x⟩ (by omega) (by omega) fun r' f1 f2 => ?_
        · simp only [AHeap.set_f, (jd hne).1, (jd hne).2.1, ↓reduceIte]
          exact vr hne
        have f5 : r' ≠ id ∧ r' ≠ lid ∧ r' ≠ i6 ∧ r' ≠ i7 ∧ h.f r' = none := by
          by_cases h0 : acc = []
          · have f1 := f1 (by rw [h0, encs_nil])
            have z1 : ¬ r' = lid := fun q => by subst q; rw [AHeap.set_f, if_pos rfl] at f1; cases f1
            have z2 : ¬ r' = id := fun q => by subst q; rw [AHeap.set_f, if_neg z1, AHeap.set_f, if_pos rfl] at f1; cases f1
            rw [AHeap.set_f, if_neg z1, AHeap.set_f, if_neg z2] at f1
            refine ⟨z2, z1, fun q => ?_, fun q => ?_, ?_⟩
            · subst q; rw [v6] at f1; cases f1
            · subst q; rw [v7] at f1; cases f1
            · cases hh : h.f r' with
              | none => rfl
              | some o => rw [vold r' o hh z2 z1] at f1; cases f1
          · rw [f2 (encs_ne h0)]
            exact j5 h0
        obtain ⟨f51, f52, f53, f54, f55⟩ := f5
        have f54' : ¬ i7 = r' := fun q => f54 q.symm
        have f5n : (Nd.encs acc).length + 1 ≠ 0 := by omega
        have wc : IntKind.u64.wrap (((c + 1 : Nat) : Int) - 1) = (c : Int) := by rw [wrap_u64 (by omega) (by omega)]; omega
        simp (config := {maxSteps := 1000000}) only [ownD_pos f5n, v7, p1n, p1n', p2n, p2n', f54, f54', wc, hT_q, enc_unnil, tb100n_e, tb38n_e, i_callNe, Int.natCast_nonneg, Nat.le_refl, Int.le_refl, List.take_succ_cons, List.take_zero, decide_true, decide_false, Bool.and_false, Bool.false_and, zz, zzN, zzF, zzD, zzM, cond_true, cond_false, ↓reduceIte, Nat.reduceEqDiff, Nat.reduceBEq, Int.reduceLT, Int.reduceLE, Int.reduceToNat, Int.reduceEq, Int.reduceAdd, Int.reduceSub, Int.reduceMul, Int.reduceNeg, Nat.reduceMul, Nat.reduceSub, Nat.reduceLeDiff, Nat.reduceLT, Int.reduceGT, Int.reduceGE, Int.reduceBEq, Int.reduceBNe, reduceCtorEq, Nat.reduceAdd]
        have l1 : (acc ++ [x]).length = (Nd.encs acc).length + 1 := by rw [List.length_append, hacc]; rfl
        refine hQ (c, rd', L', acc ++ [x], r') _ _ ⟨j1, by simp only [List.length_append, List.length_singleton]; omega, fun e => ⟨jl.1 jL e, jD⟩, by simp only; omega, fun _ => ⟨f51, f52, f53, f54, f55⟩⟩ (by simp only [i_callNe, Int.natCast_nonneg, Nat.le_refl, Int.le_refl, List.take_succ_cons, List.take_zero, decide_true, decide_false, Bool.and_false, Bool.false_and, zz, zzN, zzF, zzD, zzM, cond_true, cond_false, ↓reduceIte, Nat.reduceEqDiff, Nat.reduceBEq, Int.reduceLT, Int.reduceLE, Int.reduceToNat, Int.reduceEq, Int.reduceAdd, Int.reduceSub, Int.reduceMul, Int.reduceNeg, Nat.reduceMul, Nat.reduceSub, Nat.reduceLeDiff, Nat.reduceLT, Int.reduceGT, Int.reduceGE, Int.reduceBEq, Int.reduceBNe, reduceCtorEq, Nat.reduceAdd]) ?_ (by simp only; omega)
        rw [ownH_pos (encs_ne (by simp)), len_encs, l1, ← encs_snoc, ownD_pos f5n]
        intro j o e
        by_cases q0n : j = r'
        · subst q0n
          simp only [AHeap.set_f, f54, ↓reduceIte] at e ⊢
          exact e
        · by_cases q7n : j = i7
          · subst q7n
            simp only [AHeap.set_f, q0n, p1n, p2n, ↓reduceIte] at e ⊢
            exact e
          · by_cases q1n : j = lid
            · subst q1n
              simp only [AHeap.set_f, q0n, q7n, n0', m6', ↓reduceIte] at e ⊢
              exact e
            · by_cases q2n : j = id
              · subst q2n
                simp only [AHeap.set_f, q0n, q7n, q1n, n0, n6', ↓reduceIte] at e ⊢
                exact e
              · by_cases q6n : j = i6
                · subst q6n
                  simp only [AHeap.set_f, q0n, q7n, q1n, q2n, ↓reduceIte] at e ⊢
                  rw [v6]
                  exact e
                · simp only [AHeap.set_f, q0n, q7n, q1n, q2n, q6n, ↓reduceIte] at e ⊢
                  exact vold j o e q2n q1n
    · simp (config := {maxSteps := 1000000}) only [g1, g2, hid, hlid, wl, n0, n0', n6, n6', m6, m6', hT_q, enc_unnil, tb100n_e, tb38n_e, i_callNe, Int.natCast_nonneg, Nat.le_refl, Int.le_refl, List.take_succ_cons, List.take_zero, decide_true, decide_false, Bool.and_false, Bool.false_and, zz, zzN, zzF, zzD, zzM, cond_true, cond_false, ↓reduceIte, Nat.reduceEqDiff, Nat.reduceBEq, Int.reduceLT, Int.reduceLE, Int.reduceToNat, Int.reduceEq, Int.reduceAdd, Int.reduceSub, Int.reduceMul, Int.reduceNeg, Nat.reduceMul, Nat.reduceSub, Nat.reduceLeDiff, Nat.reduceLT, Int.reduceGT, Int.reduceGE, Int.reduceBEq, Int.reduceBNe, reduceCtorEq, Nat.reduceAdd]
      refine ⟨id, r, 3, rfl, by simp [n6', n0, hid], ?_⟩
      rw [← hF]
      simp (config := {maxSteps := 1000000}) only [g1, hid, hlid, wl, n0, n0', n6, n6', m6, m6', hT_q, enc_unnil, tb100n_e, tb38n_e, i_callNe, Int.natCast_nonneg, Nat.le_refl, Int.le_refl, List.take_succ_cons, List.take_zero, decide_true, decide_false, Bool.and_false, Bool.false_and, zz, zzN, zzF, zzD, zzM, cond_true, cond_false, ↓reduceIte, Nat.reduceEqDiff, Nat.reduceBEq, Int.reduceLT, Int.reduceLE, Int.reduceToNat, Int.reduceEq, Int.reduceAdd, Int.reduceSub, Int.reduceMul, Int.reduceNeg, Nat.reduceMul, Nat.reduceSub, Nat.reduceLeDiff, Nat.reduceLT, Int.reduceGT, Int.reduceGE, Int.reduceBEq, Int.reduceBNe, reduceCtorEq, Nat.reduceAdd]
      refine ⟨id, headF r left deep, 1, rfl, ⟨by simp [n6', n0, hid], by omega⟩, ?_⟩
      rw [e1]
      generalize headF r left deep = rh at *
      simp (config := {maxSteps := 1000000}) only [hlid, w1, n0, n0', n6, n6', m6, m6', hT_q, enc_unnil, tb100n_e, tb38n_e, i_callNe, Int.natCast_nonneg, Nat.le_refl, Int.le_refl, List.take_succ_cons, List.take_zero, decide_true, decide_false, Bool.and_false, Bool.false_and, zz, zzN, zzF, zzD, zzM, cond_true, cond_false, ↓reduceIte, Nat.reduceEqDiff, Nat.reduceBEq, Int.reduceLT, Int.reduceLE, Int.reduceToNat, Int.reduceEq, Int.reduceAdd, Int.reduceSub, Int.reduceMul, Int.reduceNeg, Nat.reduceMul, Nat.reduceSub, Nat.reduceLeDiff, Nat.reduceLT, Int.reduceGT, Int.reduceGE, Int.reduceBEq, Int.reduceBNe, reduceCtorEq, Nat.reduceAdd]
      refine ⟨id, (hk r left deep).2, 1, rfl, ⟨by simp, by omega⟩, ?_⟩
      rw [e2]
      simp (config := {maxSteps := 1000000}) only [hlid, w1, w2, n0, n0', n6, n6', m6, m6', hT_q, enc_unnil, tb100n_e, tb38n_e, i_callNe, Int.natCast_nonneg, Nat.le_refl, Int.le_refl, List.take_succ_cons, List.take_zero, decide_true, decide_false, Bool.and_false, Bool.false_and, zz, zzN, zzF, zzD, zzM, cond_true, cond_false, ↓reduceIte, Nat.reduceEqDiff, Nat.reduceBEq, Int.reduceLT, Int.reduceLE, Int.reduceToNat, Int.reduceEq, Int.reduceAdd, Int.reduceSub, Int.reduceMul, Int.reduceNeg, Nat.reduceMul, Nat.reduceSub, Nat.reduceLeDiff, Nat.reduceLT, Int.reduceGT, Int.reduceGE, Int.reduceBEq, Int.reduceBNe, reduceCtorEq, Nat.reduceAdd]
      refine ⟨id, (ht r left deep).2, 64, rfl, ⟨by simp, by omega⟩, ?_⟩
      rw [e3]
      simp (config := {maxSteps := 1000000}) only [hlid, w1, w2, n0, n0', n6, n6', m6, m6', hT_q, enc_unnil, tb100n_e, tb38n_e, i_callNe, Int.natCast_nonneg, Nat.le_refl, Int.le_refl, List.take_succ_cons, List.take_zero, decide_true, decide_false, Bool.and_false, Bool.false_and, zz, zzN, zzF, zzD, zzM, cond_true, cond_false, ↓reduceIte, Nat.reduceEqDiff, Nat.reduceBEq, Int.reduceLT, Int.reduceLE, Int.reduceToNat, Int.reduceEq, Int.reduceAdd, Int.reduceSub, Int.reduceMul, Int.reduceNeg, Nat.reduceMul, Nat.reduceSub, Nat.reduceLeDiff, Nat.reduceLT, Int.reduceGT, Int.reduceGE, Int.reduceBEq, Int.reduceBNe, reduceCtorEq, Nat.reduceAdd]
      refine ⟨id, (hs r left deep).2, 8, rfl, ⟨by simp, by omega⟩, ?_⟩
      rw [e4]
      simp (config := {maxSteps := 1000000}) only [hlid, w1, w2, n0, n0', n6, n6', m6, m6', hT_q, enc_unnil, tb100n_e, tb38n_e, i_callNe, Int.natCast_nonneg, Nat.le_refl, Int.le_refl, List.take_succ_cons, List.take_zero, decide_true, decide_false, Bool.and_false, Bool.false_and, zz, zzN, zzF, zzD, zzM, cond_true, cond_false, ↓reduceIte, Nat.reduceEqDiff, Nat.reduceBEq, Int.reduceLT, Int.reduceLE, Int.reduceToNat, Int.reduceEq, Int.reduceAdd, Int.reduceSub, Int.reduceMul, Int.reduceNeg, Nat.reduceMul, Nat.reduceSub, Nat.reduceLeDiff, Nat.reduceLT, Int.reduceGT, Int.reduceGE, Int.reduceBEq, Int.reduceBNe, reduceCtorEq, Nat.reduceAdd]
      intro i7 p1n p1n' p2n p2n' p3n p3n' k7
      refine ⟨id, (hn r left deep).2, 1, rfl, ⟨by simp [p1n'], by omega⟩, ?_⟩
      rw [e5]
      generalize hk r left deep = vk at *
      generalize ht r left deep = vt at *
      generalize hs r left deep = vs at *
      generalize hn r left deep = vn at *
      generalize hc r left deep = vq at *
      simp (config := {maxSteps := 1000000}) only [hlid, w1, w2, n0, n0', n6, n6', m6, m6', p1n, p1n', p2n, p2n', p3n, p3n', hT_q, enc_unnil, tb100n_e, tb38n_e, i_callNe, Int.natCast_nonneg, Nat.le_refl, Int.le_refl, List.take_succ_cons, List.take_zero, decide_true, decide_false, Bool.and_false, Bool.false_and, zz, zzN, zzF, zzD, zzM, cond_true, cond_false, ↓reduceIte, Nat.reduceEqDiff, Nat.reduceBEq, Int.reduceLT, Int.reduceLE, Int.reduceToNat, Int.reduceEq, Int.reduceAdd, Int.reduceSub, Int.reduceMul, Int.reduceNeg, Nat.reduceMul, Nat.reduceSub, Nat.reduceLeDiff, Nat.reduceLT, Int.reduceGT, Int.reduceGE, Int.reduceBEq, Int.reduceBNe, reduceCtorEq, Nat.reduceAdd]
      generalize hR : takeL (fun r l => takeF f r l (deep + 1)) vq.1 vq.2 (left - 1) [] = R
      refine run_loop (X := Nat × Rd × Int × List Nd × Nat) (fun x => [(0, .ptr id 1 0), (1, .ptr lid 1 0), (2, .int .i64 deep), (6, .ptr i6 1 0), (7, .ptr i7 1 0), (8, .int .u64 x.1)])
        (fun x => ownH ((((h.set i6 (.cells [.int .i64 0, .int .i64 0, .str [], .int .i64 0, .nilsl])).set lid (.cells [.int .i64 x.2.2.1])).set i7 (.cells [.int .i64 vk.1, .int .i64 vt.1, .str vs.1, .int .i64 (IntKind.i64.wrap vn.1), ownD x.2.2.2.2 x.2.2.2.1.length])).set id (.cells (encR x.2.1))) x.2.2.2.2 5 (Nd.encs x.2.2.2.1)) (fun x => x.1)
        (fun x => takeL (fun r l => takeF f r l (deep + 1)) x.1 x.2.1 x.2.2.1 x.2.2.2.1 = R ∧ x.2.2.2.1.length + x.1 ≤ 255 ∧ (x.2.1.err = 0 → 0 ≤ x.2.2.1 ∧ deep ≤ 144) ∧ x.2.2.1 ≤ left - 1 ∧ (x.2.2.2.1 ≠ [] → x.2.2.2.2 ≠ id ∧ x.2.2.2.2 ≠ lid ∧ x.2.2.2.2 ≠ i6 ∧ x.2.2.2.2 ≠ i7 ∧ h.f x.2.2.2.2 = none)) (vq.1, vq.2, left - 1, [], 0) ⟨hR, by simp only [List.length_nil]; omega, fun e => ⟨eD e, eG e⟩, Int.le_refl _, fun h => absurd rfl h⟩ ?_ ?_ ?_
      · simp only [i_callNe, Int.natCast_nonneg, Nat.le_refl, Int.le_refl, List.take_succ_cons, List.take_zero, decide_true, decide_false, Bool.and_false, Bool.false_and, zz, zzN, zzF, zzD, zzM, cond_true, cond_false, ↓reduceIte, Nat.reduceEqDiff, Nat.reduceBEq, Int.reduceLT, Int.reduceLE, Int.reduceToNat, Int.reduceEq, Int.reduceAdd, Int.reduceSub, Int.reduceMul, Int.reduceNeg, Nat.reduceMul, Nat.reduceSub, Nat.reduceLeDiff, Nat.reduceLT, Int.reduceGT, Int.reduceGE, Int.reduceBEq, Int.reduceBNe, reduceCtorEq, Nat.reduceAdd]
      · simp only [encs_nil, ownH_nil, List.length_nil, ownD_zero]
        exact AHeap.sub_X (by repeat' first | with_reducible exact AHeap.subX_refl | with_reducible exact AHeap.subX_emp | refine AHeap.subX_l (by simp [n0, n0', n6, n6', m6, m6', p1n, p1n', p2n, p2n', p3n, p3n']) ?_ | refine AHeap.subX_r (by simp [n0, n0', n6, n6', m6, m6', p1n, p1n', p2n, p2n', p3n, p3n']) ?_)
      rintro ⟨c, rd, L, acc, rr⟩ Q ⟨j1, j2, j3, j4, j5⟩ hQ
      simp only at j1 j2 j3 j4 j5 hQ ⊢
      have hacc := len_encs acc
      have jd : Nd.encs acc ≠ [] → rr ≠ id ∧ rr ≠ lid ∧ rr ≠ i6 ∧ rr ≠ i7 ∧ h.f rr = none := fun h => j5 (fun e => h (by rw [e, encs_nil]))
      have vid := ownH_f (h := ((((h.set i6 (.cells [.int .i64 0, .int .i64 0, .str [], .int .i64 0, .nilsl])).set lid (.cells [.int .i64 L])).set i7 (.cells [.int .i64 vk.1, .int .i64 vt.1, .str vs.1, .int .i64 (IntKind.i64.wrap vn.1), ownD rr acc.length])).set id (.cells (encR rd)))) (r := rr) (sz := 5) (i := id) (fun h => (jd h).1)
      have vlid := ownH_f (h := ((((h.set i6 (.cells [.int .i64 0, .int .i64 0, .str [], .int .i64 0, .nilsl])).set lid (.cells [.int .i64 L])).set i7 (.cells [.int .i64 vk.1, .int .i64 vt.1, .str vs.1, .int .i64 (IntKind.i64.wrap vn.1), ownD rr acc.length])).set id (.cells (encR rd)))) (r := rr) (sz := 5) (i := lid) (fun h => (jd h).2.1)
      have v6 := ownH_f (h := ((((h.set i6 (.cells [.int .i64 0, .int .i64 0, .str [], .int .i64 0, .nilsl])).set lid (.cells [.int .i64 L])).set i7 (.cells [.int .i64 vk.1, .int .i64 vt.1, .str vs.1, .int .i64 (IntKind.i64.wrap vn.1), ownD rr acc.length])).set id (.cells (encR rd)))) (r := rr) (sz := 5) (i := i6) (fun h => (jd h).2.2.1)
      have v7 := ownH_f (h := ((((h.set i6 (.cells [.int .i64 0, .int .i64 0, .str [], .int .i64 0, .nilsl])).set lid (.cells [.int .i64 L])).set i7 (.cells [.int .i64 vk.1, .int .i64 vt.1, .str vs.1, .int .i64 (IntKind.i64.wrap vn.1), ownD rr acc.length])).set id (.cells (encR rd)))) (r := rr) (sz := 5) (i := i7) (fun h => (jd h).2.2.2.1)
      have vold : ∀ j o, h.f j = some o → ¬ j = id → ¬ j = lid → (ownH ((((h.set i6 (.cells [.int .i64 0, .int .i64 0, .str [], .int .i64 0, .nilsl])).set lid (.cells [.int .i64 L])).set i7 (.cells [.int .i64 vk.1, .int .i64 vt.1, .str vs.1, .int .i64 (IntKind.i64.wrap vn.1), ownD rr acc.length])).set id (.cells (encR rd))) rr 5 (Nd.encs acc)).f j = some o := by
        intro j o e a b
        have j6 : ¬ j = i6 := fun q => by subst q; rw [e] at k6; cases k6
        have j7 : ¬ j = i7 := fun q => by subst q; rw [e] at k7; cases k7
        rw [ownH_f (fun hh q => by have := (jd hh).2.2.2.2; subst q; rw [e] at this; cases this)]
        simp only [AHeap.set_f, a, b, j6, j7, ↓reduceIte, e]
      have vr := fun hne => ownH_r (h := ((((h.set i6 (.cells [.int .i64 0, .int .i64 0, .str [], .int .i64 0, .nilsl])).set lid (.cells [.int .i64 L])).set i7 (.cells [.int .i64 vk.1, .int .i64 vt.1, .str vs.1, .int .i64 (IntKind.i64.wrap vn.1), ownD rr acc.length])).set id (.cells (encR rd)))) (r := rr) (sz := 5) (xs := Nd.encs acc) hne
      simp only [AHeap.set_f, n0, n0', n6, n6', m6, m6', p1n, p1n', p2n, p2n', p3n, p3n', if_true, if_false, ↓reduceIte] at vid vlid v6 v7
      generalize hO : ownH ((((h.set i6 (.cells [.int .i64 0, .int .i64 0, .str [], .int .i64 0, .nilsl])).set lid (.cells [.int .i64 L])).set i7 (.cells [.int .i64 vk.1, .int .i64 vt.1, .str vs.1, .int .i64 (IntKind.i64.wrap vn.1), ownD rr acc.length])).set id (.cells (encR rd))) rr 5 (Nd.encs acc) = O at *
      have hcase : (c = 0 ∨ rd.err ≠ 0) ∨ (∃ c', c = c' + 1 ∧ rd.err = 0) := by
        cases c with
        | zero => exact .inl (.inl rfl)
        | succ c => by_cases e : rd.err = 0
                    · exact .inr ⟨c, rfl, e⟩
                    · exact .inl (.inr e)
      rcases hcase with hcase | ⟨c, rfl, ce⟩
      · have hR2 : R = (acc, rd, L) := by
          rw [← j1]
          rcases hcase with e | e
          · rw [e]; rfl
          · cases c with
            | zero => rfl
            | succ c => unfold takeL; rw [if_neg e]
        subst hR2
        cases c with
        | zero =>
          have g8 : (((0 : Nat) : Int) > 0) = False := by simp
          simp (config := {maxSteps := 1000000}) only [g8, hT_q, enc_unnil, tb100n_e, tb38n_e, i_callNe, Int.natCast_nonneg, Nat.le_refl, Int.le_refl, List.take_succ_cons, List.take_zero, decide_true, decide_false, Bool.and_false, Bool.false_and, zz, zzN, zzF, zzD, zzM, cond_true, cond_false, ↓reduceIte, Nat.reduceEqDiff, Nat.reduceBEq, Int.reduceLT, Int.reduceLE, Int.reduceToNat, Int.reduceEq, Int.reduceAdd, Int.reduceSub, Int.reduceMul, Int.reduceNeg, Nat.reduceMul, Nat.reduceSub, Nat.reduceLeDiff, Nat.reduceLT, Int.reduceGT, Int.reduceGE, Int.reduceBEq, Int.reduceBNe, reduceCtorEq, Nat.reduceAdd]
          refine ⟨id, rd, rfl, vid, ?_⟩
          by_cases ce : rd.err = 0
          · have g9 : (rd.err != 0) = false := by simpa using ce
            by_cases h0 : acc = []
            · subst h0
              simp only [encs_nil, List.length_nil, ownD_zero] at *
              simp (config := {maxSteps := 1000000}) only [g9, v6, v7, vid, vlid, m6, m6', p1n, p1n', p2n, p2n', p3n, p3n', hT_q, enc_unnil, tb100n_e, tb38n_e, i_callNe, Int.natCast_nonneg, Nat.le_refl, Int.le_refl, List.take_succ_cons, List.take_zero, decide_true, decide_false, Bool.and_false, Bool.false_and, zz, zzN, zzF, zzD, zzM, cond_true, cond_false, ↓reduceIte, Nat.reduceEqDiff, Nat.reduceBEq, Int.reduceLT, Int.reduceLE, Int.reduceToNat, Int.reduceEq, Int.reduceAdd, Int.reduceSub, Int.reduceMul, Int.reduceNeg, Nat.reduceMul, Nat.reduceSub, Nat.reduceLeDiff, Nat.reduceLT, Int.reduceGT, Int.reduceGE, Int.reduceBEq, Int.reduceBNe, reduceCtorEq, Nat.reduceAdd]
              refine ⟨_, ?_, ?_, rfl⟩
              · intro j o e
                have e6 : ¬ i6 = j := fun q => by
                  subst q
                  simp only [AHeap.set_f, m6, n6, ↓reduceIte] at e
                  rw [k6] at e
                  cases e
                have e6' : ¬ j = i6 := fun q => e6 q.symm
                rw [AHeap.set_f, if_neg e6']
                by_cases q1n : j = lid
                · subst q1n
                  rw [AHeap.set_f, if_pos rfl] at e
                  rw [vlid]; exact e
                · by_cases q2n : j = id
                  · subst q2n
                    rw [AHeap.set_f, if_neg q1n, AHeap.set_f, if_pos rfl] at e
                    rw [vid]; exact e
                  · rw [AHeap.set_f, if_neg q1n, AHeap.set_f, if_neg q2n] at e
                    exact vold j o e q2n q1n
              · rw [if_pos ce, enc_mk, encs_nil]
            · have h1 := len_encs acc
              have h2 : acc.length ≠ 0 := fun e => h0 (List.length_eq_zero_iff.1 e)
              have vr := vr (encs_ne h0)
              rw [h1] at vr
              rw [ownD_pos h2] at v7
              obtain ⟨j51, j52, j53, j54, j55⟩ := j5 h0
              have r6 : ¬ rr = i6 := j53
              have r6' : ¬ i6 = rr := fun e => r6 e.symm
              have tk : (Nd.encs acc).take acc.length = Nd.encs acc := List.take_of_length_le (by omega)
              simp (config := {maxSteps := 1000000}) only [g9, v6, v7, vid, vlid, vr, h1, tk, r6, r6', m6, m6', p1n, p1n', p2n, p2n', p3n, p3n', hT_q, enc_unnil, tb100n_e, tb38n_e, i_callNe, Int.natCast_nonneg, Nat.le_refl, Int.le_refl, List.take_succ_cons, List.take_zero, decide_true, decide_false, Bool.and_false, Bool.false_and, zz, zzN, zzF, zzD, zzM, cond_true, cond_false, ↓reduceIte, Nat.reduceEqDiff, Nat.reduceBEq, Int.reduceLT, Int.reduceLE, Int.reduceToNat, Int.reduceEq, Int.reduceAdd, Int.reduceSub, Int.reduceMul, Int.reduceNeg, Nat.reduceMul, Nat.reduceSub, Nat.reduceLeDiff, Nat.reduceLT, Int.reduceGT, Int.reduceGE, Int.reduceBEq, Int.reduceBNe, reduceCtorEq, Nat.reduceAdd]
              refine ⟨_, ?_, ?_, rfl⟩
              · intro j o e
                have er : ¬ rr = j := fun q => by
                  subst q
                  simp only [AHeap.set_f, j51, j52, ↓reduceIte] at e
                  rw [j55] at e
                  cases e
                have er' : ¬ j = rr := fun q => er q.symm
                rw [AHeap.set_f, if_neg er']
                have e6 : ¬ i6 = j := fun q => by
                  subst q
                  simp only [AHeap.set_f, m6, n6, ↓reduceIte] at e
                  rw [k6] at e
                  cases e
                have e6' : ¬ j = i6 := fun q => e6 q.symm
                rw [AHeap.set_f, if_neg e6']
                by_cases q1n : j = lid
                · subst q1n
                  rw [AHeap.set_f, if_pos rfl] at e
                  rw [vlid]; exact e
                · by_cases q2n : j = id
                  · subst q2n
                    rw [AHeap.set_f, if_neg q1n, AHeap.set_f, if_pos rfl] at e
                    rw [vid]; exact e
                  · rw [AHeap.set_f, if_neg q1n, AHeap.set_f, if_neg q2n] at e
                    exact vold j o e q2n q1n
              · rw [if_pos ce, enc_mk]
          · have g9 : (rd.err != 0) = true := by simpa using ce
            simp (config := {maxSteps := 1000000}) only [g9, v6, v7, vid, vlid, m6, m6', p1n, p1n', p2n, p2n', p3n, p3n', hT_q, enc_unnil, tb100n_e, tb38n_e, i_callNe, Int.natCast_nonneg, Nat.le_refl, Int.le_refl, List.take_succ_cons, List.take_zero, decide_true, decide_false, Bool.and_false, Bool.false_and, zz, zzN, zzF, zzD, zzM, cond_true, cond_false, ↓reduceIte, Nat.reduceEqDiff, Nat.reduceBEq, Int.reduceLT, Int.reduceLE, Int.reduceToNat, Int.reduceEq, Int.reduceAdd, Int.reduceSub, Int.reduceMul, Int.reduceNeg, Nat.reduceMul, Nat.reduceSub, Nat.reduceLeDiff, Nat.reduceLT, Int.reduceGT, Int.reduceGE, Int.reduceBEq, Int.reduceBNe, reduceCtorEq, Nat.reduceAdd]
            refine ⟨_, ?_, ?_, rfl⟩
            · intro j o e
              have e6 : ¬ i6 = j := fun q => by
                subst q
                simp only [AHeap.set_f, m6, n6, ↓reduceIte] at e
                rw [k6] at e
                cases e
              have e6' : ¬ j = i6 := fun q => e6 q.symm
              rw [AHeap.set_f, if_neg e6']
              by_cases q1n : j = lid
              · subst q1n
                rw [AHeap.set_f, if_pos rfl] at e
                rw [vlid]; exact e
              · by_cases q2n : j = id
                · subst q2n
                  rw [AHeap.set_f, if_neg q1n, AHeap.set_f, if_pos rfl] at e
                  rw [vid]; exact e
                · rw [AHeap.set_f, if_neg q1n, AHeap.set_f, if_neg q2n] at e
                  exact vold j o e q2n q1n
            · rw [if_neg ce, nd0, enc_mk, encs_nil]
        | succ c =>
          have ce : rd.err ≠ 0 := by
            rcases hcase with e | e
            · simp at e
            · exact e
          have g8 : (((c + 1 : Nat) : Int) > 0) = True := eq_true (by omega)
          have g9 : (rd.err == 0) = false := by simpa using ce
          simp (config := {maxSteps := 1000000}) only [g8, hT_q, enc_unnil, tb100n_e, tb38n_e, i_callNe, Int.natCast_nonneg, Nat.le_refl, Int.le_refl, List.take_succ_cons, List.take_zero, decide_true, decide_false, Bool.and_false, Bool.false_and, zz, zzN, zzF, zzD, zzM, cond_true, cond_false, ↓reduceIte, Nat.reduceEqDiff, Nat.reduceBEq, Int.reduceLT, Int.reduceLE, Int.reduceToNat, Int.reduceEq, Int.reduceAdd, Int.reduceSub, Int.reduceMul, Int.reduceNeg, Nat.reduceMul, Nat.reduceSub, Nat.reduceLeDiff, Nat.reduceLT, Int.reduceGT, Int.reduceGE, Int.reduceBEq, Int.reduceBNe, reduceCtorEq, Nat.reduceAdd]
          refine ⟨id, rd, rfl, vid, ?_⟩
          simp (config := {maxSteps := 1000000}) only [g9, hT_q, enc_unnil, tb100n_e, tb38n_e, i_callNe, Int.natCast_nonneg, Nat.le_refl, Int.le_refl, List.take_succ_cons, List.take_zero, decide_true, decide_false, Bool.and_false, Bool.false_and, zz, zzN, zzF, zzD, zzM, cond_true, cond_false, ↓reduceIte, Nat.reduceEqDiff, Nat.reduceBEq, Int.reduceLT, Int.reduceLE, Int.reduceToNat, Int.reduceEq, Int.reduceAdd, Int.reduceSub, Int.reduceMul, Int.reduceNeg, Nat.reduceMul, Nat.reduceSub, Nat.reduceLeDiff, Nat.reduceLT, Int.reduceGT, Int.reduceGE, Int.reduceBEq, Int.reduceBNe, reduceCtorEq, Nat.reduceAdd]
          refine ⟨id, rd, rfl, vid, ?_⟩
          by_cases ce : rd.err = 0
          · have g9 : (rd.err != 0) = false := by simpa using ce
            by_cases h0 : acc = []
            · subst h0
              simp only [encs_nil, List.length_nil, ownD_zero] at *
              simp (config := {maxSteps := 1000000}) only [g9, v6, v7, vid, vlid, m6, m6', p1n, p1n', p2n, p2n', p3n, p3n', hT_q, enc_unnil, tb100n_e, tb38n_e, i_callNe, Int.natCast_nonneg, Nat.le_refl, Int.le_refl, List.take_succ_cons, List.take_zero, decide_true, decide_false, Bool.and_false, Bool.false_and, zz, zzN, zzF, zzD, zzM, cond_true, cond_false, ↓reduceIte, Nat.reduceEqDiff, Nat.reduceBEq, Int.reduceLT, Int.reduceLE, Int.reduceToNat, Int.reduceEq, Int.reduceAdd, Int.reduceSub, Int.reduceMul, Int.reduceNeg, Nat.reduceMul, Nat.reduceSub, Nat.reduceLeDiff, Nat.reduceLT, Int.reduceGT, Int.reduceGE, Int.reduceBEq, Int.reduceBNe, reduceCtorEq, Nat.reduceAdd]
              refine ⟨_, ?_, ?_, rfl⟩
              · intro j o e
                have e6 : ¬ i6 = j := fun q => by
                  subst q
                  simp only [AHeap.set_f, m6, n6, ↓reduceIte] at e
                  rw [k6] at e
                  cases e
                have e6' : ¬ j = i6 := fun q => e6 q.symm
                rw [AHeap.set_f, if_neg e6']
                by_cases q1n : j = lid
                · subst q1n
                  rw [AHeap.set_f, if_pos rfl] at e
                  rw [vlid]; exact e
                · by_cases q2n : j = id
                  · subst q2n
                    rw [AHeap.set_f, if_neg q1n, AHeap.set_f, if_pos rfl] at e
                    rw [vid]; exact e
                  · rw [AHeap.set_f, if_neg q1n, AHeap.set_f, if_neg q2n] at e
                    exact vold j o e q2n q1n
              · rw [if_pos ce, enc_mk, encs_nil]
            · have h1 := len_encs acc
              have h2 : acc.length ≠ 0 := fun e => h0 (List.length_eq_zero_iff.1 e)
              have vr := vr (encs_ne h0)
              rw [h1] at vr
              rw [ownD_pos h2] at v7
              obtain ⟨j51, j52, j53, j54, j55⟩ := j5 h0
              have r6 : ¬ rr = i6 := j53
              have r6' : ¬ i6 = rr := fun e => r6 e.symm
              have tk : (Nd.encs acc).take acc.length = Nd.encs acc := List.take_of_length_le (by omega)
              simp (config := {maxSteps := 1000000}) only [g9, v6, v7, vid, vlid, vr, h1, tk, r6, r6', m6, m6', p1n, p1n', p2n, p2n', p3n, p3n', hT_q, enc_unnil, tb100n_e, tb38n_e, i_callNe, Int.natCast_nonneg, Nat.le_refl, Int.le_refl, List.take_succ_cons, List.take_zero, decide_true, decide_false, Bool.and_false, Bool.false_and, zz, zzN, zzF, zzD, zzM, cond_true, cond_false, ↓reduceIte, Nat.reduceEqDiff, Nat.reduceBEq, Int.reduceLT, Int.reduceLE, Int.reduceToNat, Int.reduceEq, Int.reduceAdd, Int.reduceSub, Int.reduceMul, Int.reduceNeg, Nat.reduceMul, Nat.reduceSub, Nat.reduceLeDiff, Nat.reduceLT, Int.reduceGT, Int.reduceGE, Int.reduceBEq, Int.reduceBNe, reduceCtorEq, Nat.reduceAdd]
              refine ⟨_, ?_, ?_, rfl⟩
              · intro j o e
                have er : ¬ rr = j := fun q => by
                  subst q
                  simp only [AHeap.set_f, j51, j52, ↓reduceIte] at e
                  rw [j55] at e
                  cases e
                have er' : ¬ j = rr := fun q => er q.symm
                rw [AHeap.set_f, if_neg er']
                have e6 : ¬ i6 = j := fun q => by
                  subst q
                  simp only [AHeap.set_f, m6, n6, ↓reduceIte] at e
                  rw [k6] at e
                  cases e
                have e6' : ¬ j = i6 := fun q => e6 q.symm
                rw [AHeap.set_f, if_neg e6']
                by_cases q1n : j = lid
                · subst q1n
                  rw [AHeap.set_f, if_pos rfl] at e
                  rw [vlid]; exact e
                · by_cases q2n : j = id
                  · subst q2n
                    rw [AHeap.set_f, if_neg q1n, AHeap.set_f, if_pos rfl] at e
                    rw [vid]; exact e
                  · rw [AHeap.set_f, if_neg q1n, AHeap.set_f, if_neg q2n] at e
                    exact vold j o e q2n q1n
              · rw [if_pos ce, enc_mk]
          · have g9 : (rd.err != 0) = true := by simpa using ce
            simp (config := {maxSteps := 1000000}) only [g9, v6, v7, vid, vlid, m6, m6', p1n, p1n', p2n, p2n', p3n, p3n', hT_q, enc_unnil, tb100n_e, tb38n_e, i_callNe, Int.natCast_nonneg, Nat.le_refl, Int.le_refl, List.take_succ_cons, List.take_zero, decide_true, decide_false, Bool.and_false, Bool.false_and, zz, zzN, zzF, zzD, zzM, cond_true, cond_false, ↓reduceIte, Nat.reduceEqDiff, Nat.reduceBEq, Int.reduceLT, Int.reduceLE, Int.reduceToNat, Int.reduceEq, Int.reduceAdd, Int.reduceSub, Int.reduceMul, Int.reduceNeg, Nat.reduceMul, Nat.reduceSub, Nat.reduceLeDiff, Nat.reduceLT, Int.reduceGT, Int.reduceGE, Int.reduceBEq, Int.reduceBNe, reduceCtorEq, Nat.reduceAdd]
            refine ⟨_, ?_, ?_, rfl⟩
            · intro j o e
              have e6 : ¬ i6 = j := fun q => by
                subst q
                simp only [AHeap.set_f, m6, n6, ↓reduceIte] at e
                rw [k6] at e
                cases e
              have e6' : ¬ j = i6 := fun q => e6 q.symm
              rw [AHeap.set_f, if_neg e6']
              by_cases q1n : j = lid
              · subst q1n
                rw [AHeap.set_f, if_pos rfl] at e
                rw [vlid]; exact e
              · by_cases q2n : j = id
                · subst q2n
                  rw [AHeap.set_f, if_neg q1n, AHeap.set_f, if_pos rfl] at e
                  rw [vid]; exact e
                · rw [AHeap.set_f, if_neg q1n, AHeap.set_f, if_neg q2n] at e
                  exact vold j o e q2n q1n
            · rw [if_neg ce, nd0, enc_mk, encs_nil]
      · have g8 : (((c + 1 : Nat) : Int) > 0) = True := eq_true (by omega)
        have g9 : (rd.err == 0) = true := by simpa using ce
        simp (config := {maxSteps := 1000000}) only [g8, hT_q, enc_unnil, tb100n_e, tb38n_e, i_callNe, Int.natCast_nonneg, Nat.le_refl, Int.le_refl, List.take_succ_cons, List.take_zero, decide_true, decide_false, Bool.and_false, Bool.false_and, zz, zzN, zzF, zzD, zzM, cond_true, cond_false, ↓reduceIte, Nat.reduceEqDiff, Nat.reduceBEq, Int.reduceLT, Int.reduceLE, Int.reduceToNat, Int.reduceEq, Int.reduceAdd, Int.reduceSub, Int.reduceMul, Int.reduceNeg, Nat.reduceMul, Nat.reduceSub, Nat.reduceLeDiff, Nat.reduceLT, Int.reduceGT, Int.reduceGE, Int.reduceBEq, Int.reduceBNe, reduceCtorEq, Nat.reduceAdd]
        refine ⟨id, rd, rfl, vid, ?_⟩
        simp (config := {maxSteps := 1000000}) only [g9, v7, hT_q, enc_unnil, tb100n_e, tb38n_e, i_callNe, Int.natCast_nonneg, Nat.le_refl, Int.le_refl, List.take_succ_cons, List.take_zero, decide_true, decide_false, Bool.and_false, Bool.false_and, zz, zzN, zzF, zzD, zzM, cond_true, cond_false, ↓reduceIte, Nat.reduceEqDiff, Nat.reduceBEq, Int.reduceLT, Int.reduceLE, Int.reduceToNat, Int.reduceEq, Int.reduceAdd, Int.reduceSub, Int.reduceMul, Int.reduceNeg, Nat.reduceMul, Nat.reduceSub, Nat.reduceLeDiff, Nat.reduceLT, Int.reduceGT, Int.reduceGE, Int.reduceBEq, Int.reduceBNe, reduceCtorEq, Nat.reduceAdd]
        have wd : IntKind.i64.wrap (deep + 1) = deep + 1 := wrap_i64 (by omega) (by omega)
        obtain ⟨jL, jD⟩ := j3 ce
        rw [wd]
        refine ⟨id, lid, rd, L, deep + 1, rfl, ⟨n0, vid, vlid, jL, by omega, by omega, by omega, by omega⟩, ?_⟩
        have jl := takeF_left f rd L (deep + 1)
        unfold takeL at j1
        rw [if_pos ce] at j1
        generalize takeF f rd L (deep + 1) = z at *
        obtain ⟨x, rd', L'⟩ := z
        simp only [cellsD, enc_unnil] at jl j1 ⊢
        refine ⟨by simp only [AHeap.set_f, p1n, p2n, ↓reduceIte]; exact v7, ⟨len_enc x, enc_ok x⟩, ?_⟩
        rw [← hacc]
        refine app_own (fun hne => ?_) ⟨len_enc x, enc_ok x⟩ (by omega) (by omega) fun r' f1 f2 => ?_
        · simp only [AHeap.set_f, (jd hne).1, (jd hne).2.1, ↓reduceIte]
          exact vr hne
        have f5 : r' ≠ id ∧ r' ≠ lid ∧ r' ≠ i6 ∧ r' ≠ i7 ∧ h.f r' = none := by
          by_cases h0 : acc = []
          · have f1 := f1 (by rw [h0, encs_nil])
            have z1 : ¬ r' = lid := fun q => by subst q; rw [AHeap.set_f, if_pos rfl] at f1; cases f1
            have z2 : ¬ r' = id := fun q => by subst q; rw [AHeap.set_f, if_neg z1, AHeap.set_f, if_pos rfl] at f1; cases f1
            rw [AHeap.set_f, if_neg z1, AHeap.set_f, if_neg z2] at f1
            refine ⟨z2, z1, fun q => ?_, fun q => ?_, ?_⟩
            · subst q; rw [v6] at f1; cases f1
            · subst q; rw [v7] at f1; cases f1
            · cases hh : h.f r' with
              | none => rfl
              | some o => rw [vold r' o hh z2 z1] at f1; cases f1
          · rw [f2 (encs_ne h0)]
            exact j5 h0
        obtain ⟨f51, f52, f53, f54, f55⟩ := f5
        have f54' : ¬ i7 = r' := fun q => f54 q.symm
        have f5n : (Nd.encs acc).length + 1 ≠ 0 := by omega
        have wc : IntKind.u64.wrap (((c + 1 : Nat) : Int) - 1) = (c : Int) := by rw [wrap_u64 (by omega) (by omega)]; omega
        simp (config := {maxSteps := 1000000}) only [ownD_pos f5n, v7, p1n, p1n', p2n, p2n', f54, f54', wc, hT_q, enc_unnil, tb100n_e, tb38n_e, i_callNe, Int.natCast_nonneg, Nat.le_refl, Int.le_refl, List.take_succ_cons, List.take_zero, decide_true, decide_false, Bool.and_false, Bool.false_and, zz, zzN, zzF, zzD, zzM, cond_true, cond_false, ↓reduceIte, Nat.reduceEqDiff, Nat.reduceBEq, Int.reduceLT, Int.reduceLE, Int.reduceToNat, Int.reduceEq, Int.reduceAdd, Int.reduceSub, Int.reduceMul, Int.reduceNeg, Nat.reduceMul, Nat.reduceSub, Nat.reduceLeDiff, Nat.reduceLT, Int.reduceGT, Int.reduceGE, Int.reduceBEq, Int.reduceBNe, reduceCtorEq, Nat.reduceAdd]
        have l1 : (acc ++ [x]).length = (Nd.encs acc).length + 1 := by rw [List.length_append, hacc]; rfl
        refine hQ (c, rd', L', acc ++ [x], r') _ _ ⟨j1, by simp only [List.length_append, List.length_singleton]; omega, fun e => ⟨jl.1 jL e, jD⟩, by simp only; omega, fun _ => ⟨f51, f52, f53, f54, f55⟩⟩ (by simp only [i_callNe, Int.natCast_nonneg, Nat.le_refl, Int.le_refl, List.take_succ_cons, List.take_zero, decide_true, decide_false, Bool.and_false, Bool.false_and, zz, zzN, zzF, zzD, zzM, cond_true, cond_false, ↓reduceIte, Nat.reduceEqDiff, Nat.reduceBEq, Int.reduceLT, Int.reduceLE, Int.reduceToNat, Int.reduceEq, Int.reduceAdd, Int.reduceSub, Int.reduceMul, Int.reduceNeg, Nat.reduceMul, Nat.reduceSub, Nat.reduceLeDiff, Nat.reduceLT, Int.reduceGT, Int.reduceGE, Int.reduceBEq, Int.reduceBNe, reduceCtorEq, Nat.reduceAdd]) ?_ (by simp only; omega)
        rw [ownH_pos (encs_ne (by simp)), len_encs, l1, ← encs_snoc, ownD_pos f5n]
        intro j o e
        by_cases q0n : j = r'
        · subst q0n
          simp only [AHeap.set_f, f54, ↓reduceIte] at e ⊢
          exact e
        · by_cases q7n : j = i7
          · subst q7n
            simp only [AHeap.set_f, q0n, p1n, p2n, ↓reduceIte] at e ⊢
            exact e
          · by_cases q1n : j = lid
            · subst q1n
              simp only [AHeap.set_f, q0n, q7n, n0', m6', ↓reduceIte] at e ⊢
              exact e
            · by_cases q2n : j = id
              · subst q2n
                simp only [AHeap.set_f, q0n, q7n, q1n, n0, n6', ↓reduceIte] at e ⊢
                exact e
              · by_cases q6n : j = i6
                · subst q6n
                  simp only [AHeap.set_f, q0n, q7n, q1n, q2n, ↓reduceIte] at e ⊢
                  rw [v6]
                  exact e
                · simp only [AHeap.set_f, q0n, q7n, q1n, q2n, q6n, ↓reduceIte] at e ⊢
                  exact vold j o e q2n q1n
  · have hG := hG cs
    rw [← hG] at hid
    obtain ⟨g1, g2⟩ := cs
    simp (config := {maxSteps := 1000000}) only [g1, g2, hid, hlid, wl, n0, n0', n6, n6', m6, m6', hT_q, enc_unnil, tb100n_e, tb38n_e, i_callNe, Int.natCast_nonneg, Nat.le_refl, Int.le_refl, List.take_succ_cons, List.take_zero, decide_true, decide_false, Bool.and_false, Bool.false_and, zz, zzN, zzF, zzD, zzM, cond_true, cond_false, ↓reduceIte, Nat.reduceEqDiff, Nat.reduceBEq, Int.reduceLT, Int.reduceLE, Int.reduceToNat, Int.reduceEq, Int.reduceAdd, Int.reduceSub, Int.reduceMul, Int.reduceNeg, Nat.reduceMul, Nat.reduceSub, Nat.reduceLeDiff, Nat.reduceLT, Int.reduceGT, Int.reduceGE, Int.reduceBEq, Int.reduceBNe, reduceCtorEq, Nat.reduceAdd]
    refine ⟨id, headF r left deep, 1, rfl, ⟨by simp [n6', n0, hid], by omega⟩, ?_⟩
    rw [e1]
    generalize headF r left deep = rh at *
    simp (config := {maxSteps := 1000000}) only [hlid, w1, n0, n0', n6, n6', m6, m6', hT_q, enc_unnil, tb100n_e, tb38n_e, i_callNe, Int.natCast_nonneg, Nat.le_refl, Int.le_refl, List.take_succ_cons, List.take_zero, decide_true, decide_false, Bool.and_false, Bool.false_and, zz, zzN, zzF, zzD, zzM, cond_true, cond_false, ↓reduceIte, Nat.reduceEqDiff, Nat.reduceBEq, Int.reduceLT, Int.reduceLE, Int.reduceToNat, Int.reduceEq, Int.reduceAdd, Int.reduceSub, Int.reduceMul, Int.reduceNeg, Nat.reduceMul, Nat.reduceSub, Nat.reduceLeDiff, Nat.reduceLT, Int.reduceGT, Int.reduceGE, Int.reduceBEq, Int.reduceBNe, reduceCtorEq, Nat.reduceAdd]
    refine ⟨id, (hk r left deep).2, 1, rfl, ⟨by simp, by omega⟩, ?_⟩
    rw [e2]
    simp (config := {maxSteps := 1000000}) only [hlid, w1, w2, n0, n0', n6, n6', m6, m6', hT_q, enc_unnil, tb100n_e, tb38n_e, i_callNe, Int.natCast_nonneg, Nat.le_refl, Int.le_refl, List.take_succ_cons, List.take_zero, decide_true, decide_false, Bool.and_false, Bool.false_and, zz, zzN, zzF, zzD, zzM, cond_true, cond_false, ↓reduceIte, Nat.reduceEqDiff, Nat.reduceBEq, Int.reduceLT, Int.reduceLE, Int.reduceToNat, Int.reduceEq, Int.reduceAdd, Int.reduceSub, Int.reduceMul, Int.reduceNeg, Nat.reduceMul, Nat.reduceSub, Nat.reduceLeDiff, Nat.reduceLT, Int.reduceGT, Int.reduceGE, Int.reduceBEq, Int.reduceBNe, reduceCtorEq, Nat.reduceAdd]
    refine ⟨id, (ht r left deep).2, 64, rfl, ⟨by simp, by omega⟩, ?_⟩
    rw [e3]
    simp (config := {maxSteps := 1000000}) only [hlid, w1, w2, n0, n0', n6, n6', m6, m6', hT_q, enc_unnil, tb100n_e, tb38n_e, i_callNe, Int.natCast_nonneg, Nat.le_refl, Int.le_refl, List.take_succ_cons, List.take_zero, decide_true, decide_false, Bool.and_false, Bool.false_and, zz, zzN, zzF, zzD, zzM, cond_true, cond_false, ↓reduceIte, Nat.reduceEqDiff, Nat.reduceBEq, Int.reduceLT, Int.reduceLE, Int.reduceToNat, Int.reduceEq, Int.reduceAdd, Int.reduceSub, Int.reduceMul, Int.reduceNeg, Nat.reduceMul, Nat.reduceSub, Nat.reduceLeDiff, Nat.reduceLT, Int.reduceGT, Int.reduceGE, Int.reduceBEq, Int.reduceBNe, reduceCtorEq, Nat.reduceAdd]
    refine ⟨id, (hs r left deep).2, 8, rfl, ⟨by simp, by omega⟩, ?_⟩
    rw [e4]
    simp (config := {maxSteps := 1000000}) only [hlid, w1, w2, n0, n0', n6, n6', m6, m6', hT_q, enc_unnil, tb100n_e, tb38n_e, i_callNe, Int.natCast_nonneg, Nat.le_refl, Int.le_refl, List.take_succ_cons, List.take_zero, decide_true, decide_false, Bool.and_false, Bool.false_and, zz, zzN, zzF, zzD, zzM, cond_true, cond_false, ↓reduceIte, Nat.reduceEqDiff, Nat.reduceBEq, Int.reduceLT, Int.reduceLE, Int.reduceToNat, Int.reduceEq, Int.reduceAdd, Int.reduceSub, Int.reduceMul, Int.reduceNeg, Nat.reduceMul, Nat.reduceSub, Nat.reduceLeDiff, Nat.reduceLT, Int.reduceGT, Int.reduceGE, Int.reduceBEq, Int.reduceBNe, reduceCtorEq, Nat.reduceAdd]
    intro i7 p1n p1n' p2n p2n' p3n p3n' k7
    refine ⟨id, (hn r left deep).2, 1, rfl, ⟨by simp [p1n'], by omega⟩, ?_⟩
    rw [e5]
    generalize hk r left deep = vk at *
    generalize ht r left deep = vt at *
    generalize hs r left deep = vs at *
    generalize hn r left deep = vn at *
    generalize hc r left deep = vq at *
    simp (config := {maxSteps := 1000000}) only [hlid, w1, w2, n0, n0', n6, n6', m6, m6', p1n, p1n', p2n, p2n', p3n, p3n', hT_q, enc_unnil, tb100n_e, tb38n_e, i_callNe, Int.natCast_nonneg, Nat.le_refl, Int.le_refl, List.take_succ_cons, List.take_zero, decide_true, decide_false, Bool.and_false, Bool.false_and, zz, zzN, zzF, zzD, zzM, cond_true, cond_false, ↓reduceIte, Nat.reduceEqDiff, Nat.reduceBEq, Int.reduceLT, Int.reduceLE, Int.reduceToNat, Int.reduceEq, Int.reduceAdd, Int.reduceSub, Int.reduceMul, Int.reduceNeg, Nat.reduceMul, Nat.reduceSub, Nat.reduceLeDiff, Nat.reduceLT, Int.reduceGT, Int.reduceGE, Int.reduceBEq, Int.reduceBNe, reduceCtorEq, Nat.reduceAdd]
    generalize hR : takeL (fun r l => takeF f r l (deep + 1)) vq.1 vq.2 (left - 1) [] = R
    refine run_loop (X := Nat × Rd × Int × List Nd × Nat) (fun x => [(0, .ptr id 1 0), (1, .ptr lid 1 0), (2, .int .i64 deep), (6, .ptr i6 1 0), (7, .ptr i7 1 0), (8, .int .u64 x.1)])
      (fun x => ownH ((((h.set i6 (.cells [.int .i64 0, .int .i64 0, .str [], .int .i64 0, .nilsl])).set lid (.cells [.int .i64 x.2.2.1])).set i7 (.cells [.int .i64 vk.1, .int .i64 vt.1, .str vs.1, .int .i64 (IntKind.i64.wrap vn.1), ownD x.2.2.2.2 x.2.2.2.1.length])).set id (.cells (encR x.2.1))) x.2.2.2.2 5 (Nd.encs x.2.2.2.1)) (fun x => x.1)
      (fun x => takeL (fun r l => takeF f r l (deep + 1)) x.1 x.2.1 x.2.2.1 x.2.2.2.1 = R ∧ x.2.2.2.1.length + x.1 ≤ 255 ∧ (x.2.1.err = 0 → 0 ≤ x.2.2.1 ∧ deep ≤ 144) ∧ x.2.2.1 ≤ left - 1 ∧ (x.2.2.2.1 ≠ [] → x.2.2.2.2 ≠ id ∧ x.2.2.2.2 ≠ lid ∧ x.2.2.2.2 ≠ i6 ∧ x.2.2.2.2 ≠ i7 ∧ h.f x.2.2.2.2 = none)) (vq.1, vq.2, left - 1, [], 0) ⟨hR, by simp only [List.length_nil]; omega, fun e => ⟨eD e, eG e⟩, Int.le_refl _, fun h => absurd rfl h⟩ ?_ ?_ ?_
    · simp only [i_callNe, Int.natCast_nonneg, Nat.le_refl, Int.le_refl, List.take_succ_cons, List.take_zero, decide_true, decide_false, Bool.and_false, Bool.false_and, zz, zzN, zzF, zzD, zzM, cond_true, cond_false, ↓reduceIte, Nat.reduceEqDiff, Nat.reduceBEq, Int.reduceLT, Int.reduceLE, Int.reduceToNat, Int.reduceEq, Int.reduceAdd, Int.reduceSub, Int.reduceMul, Int.reduceNeg, Nat.reduceMul, Nat.reduceSub, Nat.reduceLeDiff, Nat.reduceLT, Int.reduceGT, Int.reduceGE, Int.reduceBEq, Int.reduceBNe, reduceCtorEq, Nat.reduceAdd]
    · simp only [encs_nil, ownH_nil, List.length_nil, ownD_zero]
      exact AHeap.sub_X (by repeat' first | with_reducible exact AHeap.subX_refl | with_reducible exact AHeap.subX_emp | refine AHeap.subX_l (by simp [n0, n0', n6, n6', m6, m6', p1n, p1n', p2n, p2n', p3n, p3n']) ?_ | refine AHeap.subX_r (by simp [n0, n0', n6, n6', m6, m6', p1n, p1n', p2n, p2n', p3n, p3n']) ?_)
    rintro ⟨c, rd, L, acc, rr⟩ Q ⟨j1, j2, j3, j4, j5⟩ hQ
    simp only at j1 j2 j3 j4 j5 hQ ⊢
    have hacc := len_encs acc
    have jd : Nd.encs acc ≠ [] → rr ≠ id ∧ rr ≠ lid ∧ rr ≠ i6 ∧ rr ≠ i7 ∧ h.f rr = none := fun h => j5 (fun e => h (by rw [e, encs_nil]))
    have vid := ownH_f (h := ((((h.set i6 (.cells [.int .i64 0, .int .i64 0, .str [], .int .i64 0, .nilsl])).set lid (.cells [.int .i64 L])).set i7 (.cells [.int .i64 vk.1, .int .i64 vt.1, .str vs.1, .int .i64 (IntKind.i64.wrap vn.1), ownD rr acc.length])).set id (.cells (encR rd)))) (r := rr) (sz := 5) (i := id) (fun h => (jd h).1)
    have vlid := ownH_f (h := ((((h.set i6 (.cells [.int .i64 0, .int .i64 0, .str [], .int .i64 0, .nilsl])).set lid (.cells [.int .i64 L])).set i7 (.cells [.int .i64 vk.1, .int .i64 vt.1, .str vs.1, .int .i64 (IntKind.i64.wrap vn.1), ownD rr acc.length])).set id (.cells (encR rd)))) (r := rr) (sz := 5) (i := lid) (fun h => (jd h).2.1)
    have v6 := ownH_f (h := ((((h.set i6 (.cells [.int .i64 0, .int .i64 0, .str [], .int .i64 0, .nilsl])).set lid (.cells [.int .i64 L])).set i7 (.cells [.int .i64 vk.1, .int .i64 vt.1, .str vs.1, .int .i64 (IntKind.i64.wrap vn.1), ownD rr acc.length])).set id (.cells (encR rd)))) (r := rr) (sz := 5) (i := i6) (fun h => (jd h).2.2.1)
    have v7 := ownH_f (h := ((((h.set i6 (.cells [.int .i64 0, .int .i64 0, .str [], .int .i64 0, .nilsl])).set lid (.cells [.int .i64 L])).set i7 (.cells [.int .i64 vk.1, .int .i64 vt.1, .str vs.1, .int .i64 (IntKind.i64.wrap vn.1), ownD rr acc.length])).set id (.cells (encR rd)))) (r := rr) (sz := 5) (i := i7) (fun h => (jd h).2.2.2.1)
    have vold : ∀ j o, h.f j = some o → ¬ j = id → ¬ j = lid → (ownH ((((h.set i6 (.cells [.int .i64 0, .int .i64 0, .str [], .int .i64 0, .nilsl])).set lid (.cells [.int .i64 L])).set i7 (.cells [.int .i64 vk.1, .int .i64 vt.1, .str vs.1, .int .i64 (IntKind.i64.wrap vn.1), ownD rr acc.length])).set id (.cells (encR rd))) rr 5 (Nd.encs acc)).f j = some o := by
      intro j o e a b
      have j6 : ¬ j = i6 := fun q => by subst q; rw [e] at k6; cases k6
      have j7 : ¬ j = i7 := fun q => by subst q; rw [e] at k7; cases k7
      rw [ownH_f (fun hh q => by have := (jd hh).2.2.2.2; subst q; rw [e] at this; cases this)]
      simp only [AHeap.set_f, a, b, j6, j7, ↓reduceIte, e]
    have vr := fun hne => ownH_r (h := ((((h.set i6 (.cells [.int .i64 0, .int .i64 0, .str [], .int .i64 0, .nilsl])).set lid (.cells [.int .i64 L])).set i7 (.cells [.int .i64 vk.1, .int .i64 vt.1, .str vs.1, .int .i64 (IntKind.i64.wrap vn.1), ownD rr acc.length])).set id (.cells (encR rd)))) (r := rr) (sz := 5) (xs := Nd.encs acc) hne
    simp only [AHeap.set_f, n0, n0', n6, n6', m6, m6', p1n, p1n', p2n, p2n', p3n, p3n', if_true, if_false, ↓reduceIte] at vid vlid v6 v7
    generalize hO : ownH ((((h.set i6 (.cells [.int .i64 0, .int .i64 0, .str [], .int .i64 0, .nilsl])).set lid (.cells [.int .i64 L])).set i7 (.cells [.int .i64 vk.1, .int .i64 vt.1, .str vs.1, .int .i64 (IntKind.i64.wrap vn.1), ownD rr acc.length])).set id (.cells (encR rd))) rr 5 (Nd.encs acc) = O at *
    have hcase : (c = 0 ∨ rd.err ≠ 0) ∨ (∃ c', c = c' + 1 ∧ rd.err = 0) := by
      cases c with
      | zero => exact .inl (.inl rfl)
      | succ c => by_cases e : rd.err = 0
                  · exact .inr ⟨c, rfl, e⟩
                  · exact .inl (.inr e)
    rcases hcase with hcase | ⟨c, rfl, ce⟩
    · have hR2 : R = (acc, rd, L) := by
        rw [← j1]
        rcases hcase with e | e
        · rw [e]; rfl
        · cases c with
          | zero => rfl
          | succ c => unfold takeL; rw [if_neg e]
      subst hR2
      cases c with
      | zero =>
        have g8 : (((0 : Nat) : Int) > 0) = False := by simp
        simp (config := {maxSteps := 1000000}) only [g8, hT_q, enc_unnil, tb100n_e, tb38n_e, i_callNe, Int.natCast_nonneg, Nat.le_refl, Int.le_refl, List.take_succ_cons, List.take_zero, decide_true, decide_false, Bool.and_false, Bool.false_and, zz, zzN, zzF, zzD, zzM, cond_true, cond_false, ↓reduceIte, Nat.reduceEqDiff, Nat.reduceBEq, Int.reduceLT, Int.reduceLE, Int.reduceToNat, Int.reduceEq, Int.reduceAdd, Int.reduceSub, Int.reduceMul, Int.reduceNeg, Nat.reduceMul, Nat.reduceSub, Nat.reduceLeDiff, Nat.reduceLT, Int.reduceGT, Int.reduceGE, Int.reduceBEq, Int.reduceBNe, reduceCtorEq, Nat.reduceAdd]
        refine ⟨id, rd, rfl, vid, ?_⟩
        by_cases ce : rd.err = 0
        · have g9 : (rd.err != 0) = false := by simpa using ce
          by_cases h0 : acc = []
          · subst h0
            simp only [encs_nil, List.length_nil, ownD_zero] at *
            simp (config := {maxSteps := 1000000}) only [g9, v6, v7, vid, vlid, m6, m6', p1n, p1n', p2n, p2n', p3n, p3n', hT_q, enc_unnil, tb100n_e, tb38n_e, i_callNe, Int.natCast_nonneg, Nat.le_refl, Int.le_refl, List.take_succ_cons, List.take_zero, decide_true, decide_false, Bool.and_false, Bool.false_and, zz, zzN, zzF, zzD, zzM, cond_true, cond_false, ↓reduceIte, Nat.reduceEqDiff, Nat.reduceBEq, Int.reduceLT, Int.reduceLE, Int.reduceToNat, Int.reduceEq, Int.reduceAdd, Int.reduceSub, Int.reduceMul, Int.reduceNeg, Nat.reduceMul, Nat.reduceSub, Nat.reduceLeDiff, Nat.reduceLT, Int.reduceGT, Int.reduceGE, Int.reduceBEq, Int.reduceBNe, reduceCtorEq, Nat.reduceAdd]
            refine ⟨_, ?_, ?_, rfl⟩
            · intro j o e
              have e6 : ¬ i6 = j := fun q => by
                subst q
                simp only [AHeap.set_f, m6, n6, ↓reduceIte] at e
                rw [k6] at e
                cases e
              have e6' : ¬ j = i6 := fun q => e6 q.symm
              rw [AHeap.set_f, if_neg e6']
              by_cases q1n : j = lid
              · subst q1n
                rw [AHeap.set_f, if_pos rfl] at e
                rw [vlid]; exact e
              · by_cases q2n : j = id
                · subst q2n
                  rw [AHeap.set_f, if_neg q1n, AHeap.set_f, if_pos rfl] at e
                  rw [vid]; exact e
                · rw [AHeap.set_f, if_neg q1n, AHeap.set_f, if_neg q2n] at e
                  exact vold j o e q2n q1n
            · rw [if_pos ce, enc_mk, encs_nil]
          · have h1 := len_encs acc
            have h2 : acc.length ≠ 0 := fun e => h0 (List.length_eq_zero_iff.1 e)
            have vr := vr (encs_ne h0)
            rw [h1] at vr
            rw [ownD_pos h2] at v7
            obtain ⟨j51, j52, j53, j54, j55⟩ := j5 h0
            have r6 : ¬ rr = i6 := j53
            have r6' : ¬ i6 = rr := fun e => r6 e.symm
            have tk : (Nd.encs acc).take acc.length = Nd.encs acc := List.take_of_length_le (by omega)
            simp (config := {maxSteps := 1000000}) only [g9, v6, v7, vid, vlid, vr, h1, tk, r6, r6', m6, m6', p1n, p1n', p2n, p2n', p3n, p3n', hT_q, enc_unnil, tb100n_e, tb38n_e, i_callNe, Int.natCast_nonneg, Nat.le_refl, Int.le_refl, List.take_succ_cons, List.take_zero, decide_true, decide_false, Bool.and_false, Bool.false_and, zz, zzN, zzF, zzD, zzM, cond_true, cond_false, ↓reduceIte, Nat.reduceEqDiff, Nat.reduceBEq, Int.reduceLT, Int.reduceLE, Int.reduceToNat, Int.reduceEq, Int.reduceAdd, Int.reduceSub, Int.reduceMul, Int.reduceNeg, Nat.reduceMul, Nat.reduceSub, Nat.reduceLeDiff, Nat.reduceLT, Int.reduceGT, Int.reduceGE, Int.reduceBEq, Int.reduceBNe, reduceCtorEq, Nat.reduceAdd]
            refine ⟨_, ?_, ?_, rfl⟩
            · intro j o e
              have er : ¬ rr = j := fun q => by
                subst q
                simp only [AHeap.set_f, j51, j52, ↓reduceIte] at e
                rw [j55] at e
                cases e
              have er' : ¬ j = rr := fun q => er q.symm
              rw [AHeap.set_f, if_neg er']
              have e6 : ¬ i6 = j := fun q => by
                subst q
                simp only [AHeap.set_f, m6, n6, ↓reduceIte] at e
                rw [k6] at e
                cases e
              have e6' : ¬ j = i6 := fun q => e6 q.symm
              rw [AHeap.set_f, if_neg e6']
              by_cases q1n : j = lid
              · subst q1n
                rw [AHeap.set_f, if_pos rfl] at e
                rw [vlid]; exact e
              · by_cases q2n : j = id
                · subst q2n
                  rw [AHeap.set_f, if_neg q1n, AHeap.set_f, if_pos rfl] at e
                  rw [vid]; exact e
                · rw [AHeap.set_f, if_neg q1n, AHeap.set_f, if_neg q2n] at e
                  exact vold j o e q2n q1n
            · rw [if_pos ce, enc_mk]
        · have g9 : (rd.err != 0) = true := by simpa using ce
          simp (config := {maxSteps := 1000000}) only [g9, v6, v7, vid, vlid, m6, m6', p1n, p1n', p2n, p2n', p3n, p3n', hT_q, enc_unnil, tb100n_e, tb38n_e, i_callNe, Int.natCast_nonneg, Nat.le_refl, Int.le_refl, List.take_succ_cons, List.take_zero, decide_true, decide_false, Bool.and_false, Bool.false_and, zz, zzN, zzF, zzD, zzM, cond_true, cond_false, ↓reduceIte, Nat.reduceEqDiff, Nat.reduceBEq, Int.reduceLT, Int.reduceLE, Int.reduceToNat, Int.reduceEq, Int.reduceAdd, Int.reduceSub, Int.reduceMul, Int.reduceNeg, Nat.reduceMul, Nat.reduceSub, Nat.reduceLeDiff, Nat.reduceLT, Int.reduceGT, Int.reduceGE, Int.reduceBEq, Int.reduceBNe, reduceCtorEq, Nat.reduceAdd]
          refine ⟨_, ?_, ?_, rfl⟩
          · intro j o e
            have e6 : ¬ i6 = j := fun q => by
              subst q
              simp only [AHeap.set_f, m6, n6, ↓reduceIte] at e
              rw [k6] at e
              cases e
            have e6' : ¬ j = i6 := fun q => e6 q.symm
            rw [AHeap.set_f, if_neg e6']
            by_cases q1n : j = lid
            · subst q1n
              rw [AHeap.set_f, if_pos rfl] at e
              rw [vlid]; exact e
            · by_cases q2n : j = id
              · subst q2n
                rw [AHeap.set_f, if_neg q1n, AHeap.set_f, if_pos rfl] at e
                rw [vid]; exact e
              · rw [AHeap.set_f, if_neg q1n, AHeap.set_f, if_neg q2n] at e
                exact vold j o e q2n q1n
          · rw [if_neg ce, nd0, enc_mk, encs_nil]
      | succ c =>
        have ce : rd.err ≠ 0 := by
          rcases hcase with e | e
          · simp at e
          · exact e
        have g8 : (((c + 1 : Nat) : Int) > 0) = True := eq_true (by omega)
        have g9 : (rd.err == 0) = false := by simpa using ce
        simp (config := {maxSteps := 1000000}) only [g8, hT_q, enc_unnil, tb100n_e, tb38n_e, i_callNe, Int.natCast_nonneg, Nat.le_refl, Int.le_refl, List.take_succ_cons, List.take_zero, decide_true, decide_false, Bool.and_false, Bool.false_and, zz, zzN, zzF, zzD, zzM, cond_true, cond_false, ↓reduceIte, Nat.reduceEqDiff, Nat.reduceBEq, Int.reduceLT, Int.reduceLE, Int.reduceToNat, Int.reduceEq, Int.reduceAdd, Int.reduceSub, Int.reduceMul, Int.reduceNeg, Nat.reduceMul, Nat.reduceSub, Nat.reduceLeDiff, Nat.reduceLT, Int.reduceGT, Int.reduceGE, Int.reduceBEq, Int.reduceBNe, reduceCtorEq, Nat.reduceAdd]
        refine ⟨id, rd, rfl, vid, ?_⟩
        simp (config := {maxSteps := 1000000}) only [g9, hT_q, enc_unnil, tb100n_e, tb38n_e, i_callNe, Int.natCast_nonneg, Nat.le_refl, Int.le_refl, List.take_succ_cons, List.take_zero, decide_true, decide_false, Bool.and_false, Bool.false_and, zz, zzN, zzF, zzD, zzM, cond_true, cond_false, ↓reduceIte, Nat.reduceEqDiff, Nat.reduceBEq, Int.reduceLT, Int.reduceLE, Int.reduceToNat, Int.reduceEq, Int.reduceAdd, Int.reduceSub, Int.reduceMul, Int.reduceNeg, Nat.reduceMul, Nat.reduceSub, Nat.reduceLeDiff, Nat.reduceLT, Int.reduceGT, Int.reduceGE, Int.reduceBEq, Int.reduceBNe, reduceCtorEq, Nat.reduceAdd]
        refine ⟨id, rd, rfl, vid, ?_⟩
        by_cases ce : rd.err = 0
        · have g9 : (rd.err != 0) = false := by simpa using ce
          by_cases h0 : acc = []
          · subst h0
            simp only [encs_nil, List.length_nil, ownD_zero] at *
            simp (config := {maxSteps := 1000000}) only [g9, v6, v7, vid, vlid, m6, m6', p1n, p1n', p2n, p2n', p3n, p3n', hT_q, enc_unnil, tb100n_e, tb38n_e, i_callNe, Int.natCast_nonneg, Nat.le_refl, Int.le_refl, List.take_succ_cons, List.take_zero, decide_true, decide_false, Bool.and_false, Bool.false_and, zz, zzN, zzF, zzD, zzM, cond_true, cond_false, ↓reduceIte, Nat.reduceEqDiff, Nat.reduceBEq, Int.reduceLT, Int.reduceLE, Int.reduceToNat, Int.reduceEq, Int.reduceAdd, Int.reduceSub, Int.reduceMul, Int.reduceNeg, Nat.reduceMul, Nat.reduceSub, Nat.reduceLeDiff, Nat.reduceLT, Int.reduceGT, Int.reduceGE, Int.reduceBEq, Int.reduceBNe, reduceCtorEq, Nat.reduceAdd]
            refine ⟨_, ?_, ?_, rfl⟩
            · intro j o e
              have e6 : ¬ i6 = j := fun q => by
                subst q
                simp only [AHeap.set_f, m6, n6, ↓reduceIte] at e
                rw [k6] at e
                cases e
              have e6' : ¬ j = i6 := fun q => e6 q.symm
              rw [AHeap.set_f, if_neg e6']
              by_cases q1n : j = lid
              · subst q1n
                rw [AHeap.set_f, if_pos rfl] at e
                rw [vlid]; exact e
              · by_cases q2n : j = id
                · subst q2n
                  rw [AHeap.set_f, if_neg q1n, AHeap.set_f, if_pos rfl] at e
                  rw [vid]; exact e
                · rw [AHeap.set_f, if_neg q1n, AHeap.set_f, if_neg q2n] at e
                  exact vold j o e q2n q1n
            · rw [if_pos ce, enc_mk, encs_nil]
          · have h1 := len_encs acc
            have h2 : acc.length ≠ 0 := fun e => h0 (List.length_eq_zero_iff.1 e)
            have vr := vr (encs_ne h0)
            rw [h1] at vr
            rw [ownD_pos h2] at v7
            obtain ⟨j51, j52, j53, j54, j55⟩ := j5 h0
            have r6 : ¬ rr = i6 := j53
            have r6' : ¬ i6 = rr := fun e => r6 e.symm
            have tk : (Nd.encs acc).take acc.length = Nd.encs acc := List.take_of_length_le (by omega)
            simp (config := {maxSteps := 1000000}) only [g9, v6, v7, vid, vlid, vr, h1, tk, r6, r6', m6, m6', p1n, p1n', p2n, p2n', p3n, p3n', hT_q, enc_unnil, tb100n_e, tb38n_e, i_callNe, Int.natCast_nonneg, Nat.le_refl, Int.le_refl, List.take_succ_cons, List.take_zero, decide_true, decide_false, Bool.and_false, Bool.false_and, zz, zzN, zzF, zzD, zzM, cond_true, cond_false, ↓reduceIte, Nat.reduceEqDiff, Nat.reduceBEq, Int.reduceLT, Int.reduceLE, Int.reduceToNat, Int.reduceEq, Int.reduceAdd, Int.reduceSub, Int.reduceMul, Int.reduceNeg, Nat.reduceMul, Nat.reduceSub, Nat.reduceLeDiff, Nat.reduceLT, Int.reduceGT, Int.reduceGE, Int.reduceBEq, Int.reduceBNe, reduceCtorEq, Nat.reduceAdd]
            refine ⟨_, ?_, ?_, rfl⟩
            · intro j o e
              have er : ¬ rr = j := fun q => by
                subst q
                simp only [AHeap.set_f, j51, j52, ↓reduceIte] at e
                rw [j55] at e
                cases e
              have er' : ¬ j = rr := fun q => er q.symm
              rw [AHeap.set_f, if_neg er']
              have e6 : ¬ i6 = j := fun q => by
                subst q
                simp only [AHeap.set_f, m6, n6, ↓reduceIte] at e
                rw [k6] at e
                cases e
              have e6' : ¬ j = i6 := fun q => e6 q.symm
              rw [AHeap.set_f, if_neg e6']
              by_cases q1n : j = lid
              · subst q1n
                rw [AHeap.set_f, if_pos rfl] at e
                rw [vlid]; exact e
              · by_cases q2n : j = id
                · subst q2n
                  rw [AHeap.set_f, if_neg q1n, AHeap.set_f, if_pos rfl] at e
                  rw [vid]; exact e
                · rw [AHeap.set_f, if_neg q1n, AHeap.set_f, if_neg q2n] at e
                  exact vold j o e q2n q1n
            · rw [if_pos ce, enc_mk]
        · have g9 : (rd.err != 0) = true := by simpa using ce
          simp (config := {maxSteps := 1000000}) only [g9, v6, v7, vid, vlid, m6, m6', p1n, p1n', p2n, p2n', p3n, p3n', hT_q, enc_unnil, tb100n_e, tb38n_e, i_callNe, Int.natCast_nonneg, Nat.le_refl, Int.le_refl, List.take_succ_cons, List.take_zero, decide_true, decide_false, Bool.and_false, Bool.false_and, zz, zzN, zzF, zzD, zzM, cond_true, cond_false, ↓reduceIte, Nat.reduceEqDiff, Nat.reduceBEq, Int.reduceLT, Int.reduceLE, Int.reduceToNat, Int.reduceEq, Int.reduceAdd, Int.reduceSub, Int.reduceMul, Int.reduceNeg, Nat.reduceMul, Nat.reduceSub, Nat.reduceLeDiff, Nat.reduceLT, Int.reduceGT, Int.reduceGE, Int.reduceBEq, Int.reduceBNe, reduceCtorEq, Nat.reduceAdd]
          refine ⟨_, ?_, ?_, rfl⟩
          · intro j o e
            have e6 : ¬ i6 = j := fun q => by
              subst q
              simp only [AHeap.set_f, m6, n6, ↓reduceIte] at e
              rw [k6] at e
              cases e
            have e6' : ¬ j = i6 := fun q => e6 q.symm
            rw [AHeap.set_f, if_neg e6']
            by_cases q1n : j = lid
            · subst q1n
              rw [AHeap.set_f, if_pos rfl] at e
              rw [vlid]; exact e
            · by_cases q2n : j = id
              · subst q2n
                rw [AHeap.set_f, if_neg q1n, AHeap.set_f, if_pos rfl] at e
                rw [vid]; exact e
              · rw [AHeap.set_f, if_neg q1n, AHeap.set_f, if_neg q2n] at e
                exact vold j o e q2n q1n
          · rw [if_neg ce, nd0, enc_mk, encs_nil]
    · have g8 : (((c + 1 : Nat) : Int) > 0) = True := eq_true (by omega)
      have g9 : (rd.err == 0) = true := by simpa using ce
      simp (config := {maxSteps := 1000000}) only [g8, hT_q, enc_unnil, tb100n_e, tb38n_e, i_callNe, Int.natCast_nonneg, Nat.le_refl, Int.le_refl, List.take_succ_cons, List.take_zero, decide_true, decide_false, Bool.and_false, Bool.false_and, zz, zzN, zzF, zzD, zzM, cond_true, cond_false, ↓reduceIte, Nat.reduceEqDiff, Nat.reduceBEq, Int.reduceLT, Int.reduceLE, Int.reduceToNat, Int.reduceEq, Int.reduceAdd, Int.reduceSub, Int.reduceMul, Int.reduceNeg, Nat.reduceMul, Nat.reduceSub, Nat.reduceLeDiff, Nat.reduceLT, Int.reduceGT, Int.reduceGE, Int.reduceBEq, Int.reduceBNe, reduceCtorEq, Nat.reduceAdd]
      refine ⟨id, rd, rfl, vid, ?_⟩
      simp (config := {maxSteps := 1000000}) only [g9, v7, hT_q, enc_unnil, tb100n_e, tb38n_e, i_callNe, Int.natCast_nonneg, Nat.le_refl, Int.le_refl, List.take_succ_cons, List.take_zero, decide_true, decide_false, Bool.and_false, Bool.false_and, zz, zzN, zzF, zzD, zzM, cond_true, cond_false, ↓reduceIte, Nat.reduceEqDiff, Nat.reduceBEq, Int.reduceLT, Int.reduceLE, Int.reduceToNat, Int.reduceEq, Int.reduceAdd, Int.reduceSub, Int.reduceMul, Int.reduceNeg, Nat.reduceMul, Nat.reduceSub, Nat.reduceLeDiff, Nat.reduceLT, Int.reduceGT, Int.reduceGE, Int.reduceBEq, Int.reduceBNe, reduceCtorEq, Nat.reduceAdd]
      have wd : IntKind.i64.wrap (deep + 1) = deep + 1 := wrap_i64 (by omega) (by omega)
      obtain ⟨jL, jD⟩ := j3 ce
      rw [wd]
      refine ⟨id, lid, rd, L, deep + 1, rfl, ⟨n0, vid, vlid, jL, by omega, by omega, by omega, by omega⟩, ?_⟩
      have jl := takeF_left f rd L (deep + 1)
      unfold takeL at j1
      rw [if_pos ce] at j1
      generalize takeF f rd L (deep + 1) = z at *
      obtain ⟨x, rd', L'⟩ := z
      simp only [cellsD, enc_unnil] at jl j1 ⊢
      refine ⟨by simp only [AHeap.set_f, p1n, p2n, ↓reduceIte]; exact v7, ⟨len_enc x, enc_ok x⟩, ?_⟩
      rw [← hacc]
      refine app_own (fun hne => ?_) ⟨len_enc x, enc_ok x⟩ (by omega) (by omega) fun r' f1 f2 => ?_
      · simp only [AHeap.set_f, (jd hne).1, (jd hne).2.1, ↓reduceIte]
        exact vr hne
      have f5 : r' ≠ id ∧ r' ≠ lid ∧ r' ≠ i6 ∧ r' ≠ i7 ∧ h.f r' = none := by
        by_cases h0 : acc = []
        · have f1 := f1 (by rw [h0, encs_nil])
          have z1 : ¬ r' = lid := fun q => by subst q; rw [AHeap.set_f, if_pos rfl] at f1; cases f1
          have z2 : ¬ r' = id := fun q => by subst q; rw [AHeap.set_f, if_neg z1, AHeap.set_f, if_pos rfl] at f1; cases f1
          rw [AHeap.set_f, if_neg z1, AHeap.set_f, if_neg z2] at f1
          refine ⟨z2, z1, fun q => ?_, fun q => ?_, ?_⟩
          · subst q; rw [v6] at f1; cases f1
          · subst q; rw [v7] at f1; cases f1
          · cases hh : h.f r' with
            | none => rfl
            | some o => rw [vold r' o hh z2 z1] at f1; cases f1
        · rw [f2 (encs_ne h0)]
          exact j5 h0
      obtain ⟨f51, f52, f53, f54, f55⟩ := f5
      have f54' : ¬ i7 = r' := fun q => f54 q.symm
      have f5n : (Nd.encs acc).length + 1 ≠ 0 := by omega
      have wc : IntKind.u64.wrap (((c + 1 : Nat) : Int) - 1) = (c : Int) := by rw [wrap_u64 (by omega) (by omega)]; omega
      simp (config := {maxSteps := 1000000}) only [ownD_pos f5n, v7, p1n, p1n', p2n, p2n', f54, f54', wc, hT_q, enc_unnil, tb100n_e, tb38n_e, i_callNe, Int.natCast_nonneg, Nat.le_refl, Int.le_refl, List.take_succ_cons, List.take_zero, decide_true, decide_false, Bool.and_false, Bool.false_and, zz, zzN, zzF, zzD, zzM, cond_true, cond_false, ↓reduceIte, Nat.reduceEqDiff, Nat.reduceBEq, Int.reduceLT, Int.reduceLE, Int.reduceToNat, Int.reduceEq, Int.reduceAdd, Int.reduceSub, Int.reduceMul, Int.reduceNeg, Nat.reduceMul, Nat.reduceSub, Nat.reduceLeDiff, Nat.reduceLT, Int.reduceGT, Int.reduceGE, Int.reduceBEq, Int.reduceBNe, reduceCtorEq, Nat.reduceAdd]
      have l1 : (acc ++ [x]).length = (Nd.encs acc).length + 1 := by rw [List.length_append, hacc]; rfl
      refine hQ (c, rd', L', acc ++ [x], r') _ _ ⟨j1, by simp only [List.length_append, List.length_singleton]; omega, fun e => ⟨jl.1 jL e, jD⟩, by simp only; omega, fun _ => ⟨f51, f52, f53, f54, f55⟩⟩ (by simp only [i_callNe, Int.natCast_nonneg, Nat.le_refl, Int.le_refl, List.take_succ_cons, List.take_zero, decide_true, decide_false, Bool.and_false, Bool.false_and, zz, zzN, zzF, zzD, zzM, cond_true, cond_false, ↓reduceIte, Nat.reduceEqDiff, Nat.reduceBEq, Int.reduceLT, Int.reduceLE, Int.reduceToNat, Int.reduceEq, Int.reduceAdd, Int.reduceSub, Int.reduceMul, Int.reduceNeg, Nat.reduceMul, Nat.reduceSub, Nat.reduceLeDiff, Nat.reduceLT, Int.reduceGT, Int.reduceGE, Int.reduceBEq, Int.reduceBNe, reduceCtorEq, Nat.reduceAdd]) ?_ (by simp only; omega)
      rw [ownH_pos (encs_ne (by simp)), len_encs, l1, ← encs_snoc, ownD_pos f5n]
      intro j o e
      by_cases q0n : j = r'
      · subst q0n
        simp only [AHeap.set_f, f54, ↓reduceIte] at e ⊢
        exact e
      · by_cases q7n : j = i7
        · subst q7n
          simp only [AHeap.set_f, q0n, p1n, p2n, ↓reduceIte] at e ⊢
          exact e
        · by_cases q1n : j = lid
          · subst q1n
            simp only [AHeap.set_f, q0n, q7n, n0', m6', ↓reduceIte] at e ⊢
            exact e
          · by_cases q2n : j = id
            · subst q2n
              simp only [AHeap.set_f, q0n, q7n, q1n, n0, n6', ↓reduceIte] at e ⊢
              exact e
            · by_cases q6n : j = i6
              · subst q6n
                simp only [AHeap.set_f, q0n, q7n, q1n, q2n, ↓reduceIte] at e ⊢
                rw [v6]
                exact e
              · simp only [AHeap.set_f, q0n, q7n, q1n, q2n, q6n, ↓reduceIte] at e ⊢
                exact vold j o e q2n q1n
theorem tbT_ok : ∀ f, (tb38n.addW 66 (c66n f) (c66n_mono f)).ok Tryd.prog
  | 0 => Tab.addW_ok tb38n_ok (fun args h K c => by
    obtain ⟨id, lid, r, left, deep, _, hP, _⟩ := c
    have := hP.2.2.2.1
    have := hP.2.2.2.2.1
    exfalso
    omega)
  | f + 1 => Tab.addW_ok tb38n_ok (fun args h K c => by
    obtain ⟨id, lid, r, left, deep, hE, hP, hK⟩ := c
    subst hE
    exact (take_c f (tbT_ok f) h id lid r left deep hP).mono fun o h' ⟨d, hE1, hE2, hE3⟩ => ⟨d, hE1, by rw [hE2, hE3]; exact hK⟩)
def c66t := c66n 2001
theorem c66t_mono (args : List D) (h : AHeap) (K K' : D → AHeap → Prop) (hk : ∀ d h, K d h → K' d h) (c : c66t args h K) : c66t args h K' := c66n_mono 2001 args h K K' hk c
theorem c66t_ok (args : List D) (h : AHeap) (K : D → AHeap → Prop) (c : c66t args h K) : ACalls Tryd.prog 66 args h fun o h' => ∃ d, o = .ret d ∧ K d h' := by
  obtain ⟨id, lid, r, left, deep, hE, hP, hK⟩ := c
  subst hE
  exact (take_c 2000 (tbT_ok 2000) h id lid r left deep hP).mono fun o h' ⟨d, hE1, hE2, hE3⟩ => ⟨d, hE1, by rw [hE2, hE3]; exact hK⟩
def tb66n : Tab := tb38n.addW 66 c66t c66t_mono
theorem tb66n_q : tb66n.q = tb38n.q := rfl
theorem tb66n_a : tb66n.a = tb38n.a := rfl
theorem tb66n_c (g : FuncId) (args : List D) (h : AHeap) (K E : D → AHeap → Prop) : tb66n.c g args h K E = if g = 66 then c66t args h K else tb38n.c g args h K E := rfl
theorem tb66n_ok : tb66n.ok Tryd.prog := Tab.addW_ok tb38n_ok c66t_ok
theorem tb66n_e : type_of% (And.intro (And.intro @tb66n_q (And.intro @tb66n_a @tb66n_c)) @tb38n_e) := (And.intro (And.intro @tb66n_q (And.intro @tb66n_a @tb66n_c)) @tb38n_e)

def p36n : Plan := ⟨⟨[], [], [], [], [], []⟩, [], [], false⟩
/-- cupel/wire.NewReader (1 parameters, 0 captured) -/
def s36n : Stm :=
  .seq (.ops [⟨.mov (.c .nilptr), (some 2), none, true⟩])
  (.seq (.ops [⟨.mov (.t 0), (some 3), none, true⟩,
     ⟨.build [(.str []), (.int .i64 0), (.int .i64 0)] [(0, 1, (.t 3))], (some 4), none, true⟩,
     ⟨.box (.t 4), (some 5), none, false⟩,
     ⟨.mov (.t 5), (some 2), none, true⟩])
  (.ret))
theorem st36n : stmOf Tryd.prog 36 p36n = some (s36n, [.tmp 2], 6) := by kernel_rfl

def p37n : Plan := ⟨⟨[], [(2, 1)], [], [], [], []⟩, [], [], false⟩
/-- cupel/ast.Take (1 parameters, 0 captured) -/
def s37n : Stm :=
  .seq (.ops [⟨.alloc [(.int .i64 0), (.int .i64 0), (.str []), (.int .i64 0), .nilsl], (some 2), none, false⟩])
  (.seq (.ops [⟨.alloc [(.int .i64 0)], (some 3), none, false⟩,
     ⟨.store 1 (.t 3) (.c (.int .i64 2000)), none, none, false⟩])
  (.seq (.ops [⟨.mov (.t 0), (some 4), none, true⟩,
     ⟨.call (.f 66) [(.t 4), (.t 3), (.c (.int .i64 0))], (some 5), none, false⟩,
     ⟨.store 5 (.t 2) (.t 5), none, none, false⟩])
  (.ret)))
theorem st37n : stmOf Tryd.prog 37 p37n = some (s37n, [.cell 2 (some 5)], 6) := by kernel_rfl

def p11n : Plan := ⟨⟨[], [(1, 1), (2, 1), (3, 1)], [], [], [], []⟩, [], [], false⟩
/-- cupel/ast.Decode (1 parameters, 0 captured) -/
def s11n : Stm :=
  .seq (.ops [⟨.alloc [(.int .i64 0), (.int .i64 0), (.str []), (.int .i64 0), .nilsl], (some 2), none, false⟩,
     ⟨.mov (.c (.int .i64 0)), (some 3), none, true⟩])
  (.seq (.ops [⟨.mov (.t 0), (some 7), none, true⟩,
     ⟨.call (.f 36) [(.t 7)], (some 8), none, false⟩,
     ⟨.mov (.t 8), (some 4), none, true⟩])
  (.seq (.ops [⟨.mov (.t 4), (some 9), none, true⟩,
     ⟨.call (.f 37) [(.t 9)], (some 10), none, false⟩,
     ⟨.alloc [(.int .i64 0), (.int .i64 0), (.str []), (.int .i64 0), .nilsl], (some 5), none, false⟩,
     ⟨.store 5 (.t 5) (.t 10), none, none, false⟩])
  (.seq (.seq (.ops [⟨.mov (.t 4), (some 11), none, true⟩,
      ⟨.call (.f 38) [(.t 11)], (some 12), none, false⟩,
      ⟨.mov (.t 12), (some 6), none, true⟩])
   (.seq (.ops [⟨.mov (.t 6), (some 13), none, true⟩,
      ⟨.bin .neq (.t 13) (.c (.int .i64 0)), (some 14), none, true⟩])
   (.cond (.t 14)
    (.seq (.ops [⟨.build [(.int .i64 0), (.int .i64 0), (.str []), (.int .i64 0), .nilsl] [], (some 15), none, true⟩,
        ⟨.mov (.t 6), (some 16), none, true⟩,
        ⟨.store 5 (.t 2) (.t 15), none, none, false⟩,
        ⟨.mov (.t 16), (some 3), none, true⟩])
     (.ret))
    (.skip))))
  (.seq (.ops [⟨.load (some 5) (.t 5), (some 17), none, false⟩,
     ⟨.store 5 (.t 2) (.t 17), none, none, false⟩,
     ⟨.mov (.c (.int .i64 0)), (some 3), none, true⟩])
  (.ret)))))
theorem st11n : stmOf Tryd.prog 11 p11n = some (s11n, [.cell 2 (some 5), .tmp 3], 18) := by kernel_rfl

theorem newReader_c (s : List UInt8) (h : AHeap) : ACalls Tryd.prog 36 [.str s] h fun o h' => ∃ id, h.f id = none ∧ o = .ret (.ptr id 1 0) ∧ h' = h.set id (.cells (encR ⟨s, 0, 0⟩)) := by
  refine (ACalls.run (K := fun d h' => ∃ id, h.f id = none ∧ d = .ptr id 1 0 ∧ h' = h.set id (.cells (encR ⟨s, 0, 0⟩))) (Tab.zero_ok _) st36n (by simp) fun E => ?_).mono fun o h' ⟨d, e, id, a, b, c⟩ => ⟨id, a, by rw [e, b], c⟩
  simp only [s36n, i_callNe, Int.natCast_nonneg, Nat.le_refl, Int.le_refl, List.take_succ_cons, List.take_zero, decide_true, decide_false, Bool.and_false, Bool.false_and, zz, zzN, zzF, zzD, zzM, cond_true, cond_false, ↓reduceIte, Nat.reduceEqDiff, Nat.reduceBEq, Int.reduceLT, Int.reduceLE, Int.reduceToNat, Int.reduceEq, Int.reduceAdd, Int.reduceSub, Int.reduceMul, Int.reduceNeg, Nat.reduceMul, Nat.reduceSub, Nat.reduceLeDiff, Nat.reduceLT, Int.reduceGT, Int.reduceGE, Int.reduceBEq, Int.reduceBNe, reduceCtorEq, Nat.reduceAdd]
  intro id hid
  exact ⟨id, hid, rfl, rfl⟩
def c36n (args : List D) (h : AHeap) (K : D → AHeap → Prop) : Prop := ∃ s, args = [.str s] ∧ ∀ id, h.f id = none → K (.ptr id 1 0) (h.set id (.cells (encR ⟨s, 0, 0⟩)))
theorem c36n_mono (args : List D) (h : AHeap) (K K' : D → AHeap → Prop) (hk : ∀ d h, K d h → K' d h) (c : c36n args h K) : c36n args h K' := by
  obtain ⟨s, e, k⟩ := c
  exact ⟨s, e, fun id hid => hk _ _ (k id hid)⟩
theorem c36n_ok (args : List D) (h : AHeap) (K : D → AHeap → Prop) (c : c36n args h K) : ACalls Tryd.prog 36 args h fun o h' => ∃ d, o = .ret d ∧ K d h' := by
  obtain ⟨s, rfl, k⟩ := c
  exact (newReader_c s h).mono fun o h' ⟨id, a, b, e⟩ => ⟨_, b, by rw [e]; exact k id a⟩
def tb36n : Tab := tb66n.addW 36 c36n c36n_mono
theorem tb36n_q : tb36n.q = tb66n.q := rfl
theorem tb36n_a : tb36n.a = tb66n.a := rfl
theorem tb36n_c (g : FuncId) (args : List D) (h : AHeap) (K E : D → AHeap → Prop) : tb36n.c g args h K E = if g = 36 then c36n args h K else tb66n.c g args h K E := rfl
theorem tb36n_ok : tb36n.ok Tryd.prog := Tab.addW_ok tb66n_ok c36n_ok
theorem tb36n_e : type_of% (And.intro (And.intro @tb36n_q (And.intro @tb36n_a @tb36n_c)) @tb66n_e) := (And.intro (And.intro @tb36n_q (And.intro @tb36n_a @tb36n_c)) @tb66n_e)

theorem takeTop_c (h : AHeap) (id : Nat) (r : Rd) (hid : h.f id = some (.cells (encR r))) : ACalls Tryd.prog 37 [.ptr id 1 0] h fun o h' => ∃ d, o = .ret d ∧ d = .agg (takeF 2001 r 2000 0).1.enc ∧ h' = h.set id (.cells (encR (takeF 2001 r 2000 0).2.1)) := by
  refine ACalls.runF tb36n_ok st37n (by simp) ?_
  simp (config := {maxSteps := 1000000}) only [s37n, hid, tb100n_e, tb36n_e, i_callNe, Int.natCast_nonneg, Nat.le_refl, Int.le_refl, List.take_succ_cons, List.take_zero, decide_true, decide_false, Bool.and_false, Bool.false_and, zz, zzN, zzF, zzD, zzM, cond_true, cond_false, ↓reduceIte, Nat.reduceEqDiff, Nat.reduceBEq, Int.reduceLT, Int.reduceLE, Int.reduceToNat, Int.reduceEq, Int.reduceAdd, Int.reduceSub, Int.reduceMul, Int.reduceNeg, Nat.reduceMul, Nat.reduceSub, Nat.reduceLeDiff, Nat.reduceLT, Int.reduceGT, Int.reduceGE, Int.reduceBEq, Int.reduceBNe, reduceCtorEq, Nat.reduceAdd]
  intro i2 k2 i3 p1n p1n' k3
  have n2 : ¬ i2 = id := fun e => by subst e; rw [hid] at k2; cases k2
  have n2' : ¬ id = i2 := fun e => n2 e.symm
  have n3 : ¬ i3 = id := fun e => by subst e; rw [hid] at k3; cases k3
  have n3' : ¬ id = i3 := fun e => n3 e.symm
  refine ⟨id, i3, r, 2000, 0, rfl, ⟨n3', by simp [n2', n3', hid], by simp, by omega, by omega, by omega, by omega, by omega⟩, ?_⟩
  have hl := len_enc (takeF 2001 r 2000 0).1
  have ho := enc_ok (takeF 2001 r 2000 0).1
  have hp := part_enc (takeF 2001 r 2000 0).1
  obtain ⟨k, t, s, n, l⟩ := (takeF 2001 r 2000 0).1
  generalize (takeF 2001 r 2000 0).2.1 = r' at *
  generalize (takeF 2001 r 2000 0).2.2 = l' at *
  rw [enc_mk] at *
  simp (config := {maxSteps := 1000000}) only [hid, n2, n2', n3, n3', p1n, p1n', tb100n_e, tb36n_e, i_callNe, Int.natCast_nonneg, Nat.le_refl, Int.le_refl, List.take_succ_cons, List.take_zero, decide_true, decide_false, Bool.and_false, Bool.false_and, zz, zzN, zzF, zzD, zzM, cond_true, cond_false, ↓reduceIte, Nat.reduceEqDiff, Nat.reduceBEq, Int.reduceLT, Int.reduceLE, Int.reduceToNat, Int.reduceEq, Int.reduceAdd, Int.reduceSub, Int.reduceMul, Int.reduceNeg, Nat.reduceMul, Nat.reduceSub, Nat.reduceLeDiff, Nat.reduceLT, Int.reduceGT, Int.reduceGE, Int.reduceBEq, Int.reduceBNe, reduceCtorEq, Nat.reduceAdd]
  refine ⟨_, ?_, rfl⟩
  intro j o e
  have e2 : ¬ j = i2 := fun q => by subst q; simp only [AHeap.set_f, n2, ↓reduceIte] at e; rw [k2] at e; cases e
  have e3 : ¬ j = i3 := fun q => by subst q; simp only [AHeap.set_f, n3, ↓reduceIte] at e; rw [k3] at e; cases e
  by_cases q : j = id
  · subst q
    simp only [AHeap.set_f, e2, e3, ↓reduceIte] at e ⊢
    exact e
  · simp only [AHeap.set_f, q, e2, e3, ↓reduceIte] at e ⊢
    exact e
def c37n (args : List D) (h : AHeap) (K : D → AHeap → Prop) : Prop := ∃ (id : Nat) (r : Rd), args = [.ptr id 1 0] ∧ (h.f id = some (.cells (encR r))) ∧ K (.agg (takeF 2001 r 2000 0).1.enc) (h.set id (.cells (encR (takeF 2001 r 2000 0).2.1)))
theorem c37n_mono (args : List D) (h : AHeap) (K K' : D → AHeap → Prop) (hk : ∀ d h, K d h → K' d h) (c : c37n args h K) : c37n args h K' := by
  obtain ⟨id, r, hE, hP, hK⟩ := c
  exact ⟨id, r, hE, hP, hk _ _ hK⟩
theorem c37n_ok (args : List D) (h : AHeap) (K : D → AHeap → Prop) (c : c37n args h K) : ACalls Tryd.prog 37 args h fun o h' => ∃ d, o = .ret d ∧ K d h' := by
  obtain ⟨id, r, rfl, hP, hK⟩ := c
  exact (takeTop_c h id r hP).mono fun o h' ⟨d, hE1, hE2, hE3⟩ => ⟨d, hE1, by rw [hE2, hE3]; exact hK⟩

def tb37n : Tab := tb36n.addW 37 c37n c37n_mono
theorem tb37n_q : tb37n.q = tb36n.q := rfl
theorem tb37n_a : tb37n.a = tb36n.a := rfl
theorem tb37n_c (g : FuncId) (args : List D) (h : AHeap) (K E : D → AHeap → Prop) : tb37n.c g args h K E = if g = 37 then c37n args h K else tb36n.c g args h K E := rfl
theorem tb37n_ok : tb37n.ok Tryd.prog := Tab.addW_ok tb36n_ok c37n_ok
theorem tb37n_e : type_of% (And.intro (And.intro @tb37n_q (And.intro @tb37n_a @tb37n_c)) @tb36n_e) := (And.intro (And.intro @tb37n_q (And.intro @tb37n_a @tb37n_c)) @tb36n_e)

def decodeF (s : List UInt8) : Nd × Int :=
  if (rEnd (takeF 2001 ⟨s, 0, 0⟩ 2000 0).2.1).err = 0 then ((takeF 2001 ⟨s, 0, 0⟩ 2000 0).1, 0) else (nd0, (rEnd (takeF 2001 ⟨s, 0, 0⟩ 2000 0).2.1).err)
theorem decode_c (s : List UInt8) : PCall Tryd.prog 11 [.str s] (.tuple [.agg (decodeF s).1.enc, .int .i64 (decodeF s).2]) := by
  refine PCall.run tb37n_ok st11n (by simp) fun E => ?_
  simp (config := {maxSteps := 1000000}) only [s11n, tb100n_e, tb37n_e, i_callNe, Int.natCast_nonneg, Nat.le_refl, Int.le_refl, List.take_succ_cons, List.take_zero, decide_true, decide_false, Bool.and_false, Bool.false_and, zz, zzN, zzF, zzD, zzM, cond_true, cond_false, ↓reduceIte, Nat.reduceEqDiff, Nat.reduceBEq, Int.reduceLT, Int.reduceLE, Int.reduceToNat, Int.reduceEq, Int.reduceAdd, Int.reduceSub, Int.reduceMul, Int.reduceNeg, Nat.reduceMul, Nat.reduceSub, Nat.reduceLeDiff, Nat.reduceLT, Int.reduceGT, Int.reduceGE, Int.reduceBEq, Int.reduceBNe, reduceCtorEq, Nat.reduceAdd]
  intro i2
  refine ⟨s, rfl, fun id k => ?_⟩
  have k2 : ¬ id = i2 := fun e => by subst e; simp at k
  have k2' : ¬ i2 = id := fun e => k2 e.symm
  simp (config := {maxSteps := 1000000}) only [k2, k2', tb100n_e, tb37n_e, i_callNe, Int.natCast_nonneg, Nat.le_refl, Int.le_refl, List.take_succ_cons, List.take_zero, decide_true, decide_false, Bool.and_false, Bool.false_and, zz, zzN, zzF, zzD, zzM, cond_true, cond_false, ↓reduceIte, Nat.reduceEqDiff, Nat.reduceBEq, Int.reduceLT, Int.reduceLE, Int.reduceToNat, Int.reduceEq, Int.reduceAdd, Int.reduceSub, Int.reduceMul, Int.reduceNeg, Nat.reduceMul, Nat.reduceSub, Nat.reduceLeDiff, Nat.reduceLT, Int.reduceGT, Int.reduceGE, Int.reduceBEq, Int.reduceBNe, reduceCtorEq, Nat.reduceAdd]
  refine ⟨id, ⟨s, 0, 0⟩, rfl, by simp [k2], ?_⟩
  have hp := part_enc (takeF 2001 ⟨s, 0, 0⟩ 2000 0).1
  unfold decodeF
  obtain ⟨nk, nt, ns, nn, nl⟩ := (takeF 2001 ⟨s, 0, 0⟩ 2000 0).1
  generalize (takeF 2001 ⟨s, 0, 0⟩ 2000 0).2.1 = r' at *
  rw [enc_mk] at *
  simp (config := {maxSteps := 1000000}) only [k2, k2', tb100n_e, tb37n_e, i_callNe, Int.natCast_nonneg, Nat.le_refl, Int.le_refl, List.take_succ_cons, List.take_zero, decide_true, decide_false, Bool.and_false, Bool.false_and, zz, zzN, zzF, zzD, zzM, cond_true, cond_false, ↓reduceIte, Nat.reduceEqDiff, Nat.reduceBEq, Int.reduceLT, Int.reduceLE, Int.reduceToNat, Int.reduceEq, Int.reduceAdd, Int.reduceSub, Int.reduceMul, Int.reduceNeg, Nat.reduceMul, Nat.reduceSub, Nat.reduceLeDiff, Nat.reduceLT, Int.reduceGT, Int.reduceGE, Int.reduceBEq, Int.reduceBNe, reduceCtorEq, Nat.reduceAdd]
  intro i5 m1 m1' m2 m2'
  refine ⟨id, r', rfl, by simp [m1'], ?_⟩
  generalize rEnd r' = r2 at *
  by_cases c : r2.err = 0
  · have g : (r2.err != 0) = false := by simpa using c
    simp (config := {maxSteps := 1000000}) only [g, c, k2, k2', m1, m1', m2, m2', enc_mk, tb100n_e, tb37n_e, i_callNe, Int.natCast_nonneg, Nat.le_refl, Int.le_refl, List.take_succ_cons, List.take_zero, decide_true, decide_false, Bool.and_false, Bool.false_and, zz, zzN, zzF, zzD, zzM, cond_true, cond_false, ↓reduceIte, Nat.reduceEqDiff, Nat.reduceBEq, Int.reduceLT, Int.reduceLE, Int.reduceToNat, Int.reduceEq, Int.reduceAdd, Int.reduceSub, Int.reduceMul, Int.reduceNeg, Nat.reduceMul, Nat.reduceSub, Nat.reduceLeDiff, Nat.reduceLT, Int.reduceGT, Int.reduceGE, Int.reduceBEq, Int.reduceBNe, reduceCtorEq, Nat.reduceAdd]
  · have g : (r2.err != 0) = true := by simpa using c
    simp (config := {maxSteps := 1000000}) only [g, c, k2, k2', m1, m1', m2, m2', nd0, enc_mk, encs_nil, tb100n_e, tb37n_e, i_callNe, Int.natCast_nonneg, Nat.le_refl, Int.le_refl, List.take_succ_cons, List.take_zero, decide_true, decide_false, Bool.and_false, Bool.false_and, zz, zzN, zzF, zzD, zzM, cond_true, cond_false, ↓reduceIte, Nat.reduceEqDiff, Nat.reduceBEq, Int.reduceLT, Int.reduceLE, Int.reduceToNat, Int.reduceEq, Int.reduceAdd, Int.reduceSub, Int.reduceMul, Int.reduceNeg, Nat.reduceMul, Nat.reduceSub, Nat.reduceLeDiff, Nat.reduceLT, Int.reduceGT, Int.reduceGE, Int.reduceBEq, Int.reduceBNe, reduceCtorEq, Nat.reduceAdd]
end Go.Proofs.YthpgepillaeldaaDoor.Zz
