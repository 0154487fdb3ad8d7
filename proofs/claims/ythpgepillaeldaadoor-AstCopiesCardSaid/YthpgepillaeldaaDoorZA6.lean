/- The law of trees that are read. -/
import Derived.Test.YthpgepillaeldaaDoorZA5
namespace Go.Proofs.YthpgepillaeldaaDoor.Zz
noncomputable section
set_option linter.unusedVariables false
set_option linter.unusedSimpArgs false
set_option maxRecDepth 20000
def p4n : Plan := ⟨⟨[], [], [], [], [], []⟩, []⟩
/-- cupel/cupellaw10.AstReads (1 parameters, 0 captured) -/
def s4n : Stm :=
  .seq (.ops [⟨.mov (.c (.bool false)), (some 2), none, true⟩])
  (.seq (.ops [⟨.mov (.t 0), (some 6), none, true⟩,
     ⟨.qcall (.f 11) [(.t 6)], (some 7), none, false⟩,
     ⟨.mov (.t 7), (some 5), none, true⟩,
     ⟨.extract (.t 5) 0, (some 8), none, true⟩,
     ⟨.extract (.t 5) 1, (some 9), none, true⟩,
     ⟨.alloc [(.int .i64 0), (.int .i64 0), (.str []), (.int .i64 0), .nilsl], (some 3), none, false⟩,
     ⟨.store 5 (.t 3) (.t 8), none, none, false⟩,
     ⟨.mov (.t 9), (some 4), none, true⟩])
  (.seq (.seq (.ops [⟨.qcall (.f 12) [], (some 10), none, false⟩,
      ⟨.un .not (.t 10), (some 11), none, true⟩])
   (.cond (.t 11)
    (.seq (.ops [⟨.mov (.c (.bool false)), (some 2), none, true⟩])
     (.ret))
    (.skip)))
  (.seq (.seq (.ops [⟨.mov (.t 4), (some 12), none, true⟩,
      ⟨.bin .neq (.t 12) (.c (.int .i64 0)), (some 13), none, true⟩])
   (.cond (.t 13)
    (.seq (.ops [⟨.fieldAddr 0 (.t 3), (some 14), none, true⟩,
        ⟨.load none (.t 14), (some 15), none, false⟩,
        ⟨.bin .eql (.t 15) (.c (.int .i64 0)), (some 16), none, true⟩,
        ⟨.mov (.t 16), (some 17), none, true⟩,
        ⟨.fieldAddr 4 (.t 3), (some 18), (some (17, true)), true⟩,
        ⟨.load none (.t 18), (some 19), (some (17, true)), false⟩,
        ⟨.len .sl (.t 19), (some 20), (some (17, true)), false⟩,
        ⟨.bin .eql (.t 20) (.c (.int .i64 0)), (some 21), (some (17, true)), true⟩,
        ⟨.pick (.t 17) (.t 21) (.c (.bool false)), (some 22), none, true⟩,
        ⟨.mov (.t 22), (some 2), none, true⟩])
     (.ret))
    (.skip)))
  (.seq (.ops [⟨.load (some 5) (.t 3), (some 23), none, false⟩,
     ⟨.qcall (.f 13) [(.t 23)], (some 24), none, false⟩,
     ⟨.mov (.t 0), (some 25), none, true⟩,
     ⟨.bin .eql (.t 24) (.t 25), (some 26), none, true⟩,
     ⟨.mov (.t 26), (some 27), none, true⟩,
     ⟨.load (some 5) (.t 3), (some 28), (some (27, true)), false⟩,
     ⟨.qcall (.f 14) [(.t 28)], (some 29), (some (27, true)), false⟩,
     ⟨.bin .leq (.t 29) (.c (.int .i64 2000)), (some 30), (some (27, true)), true⟩,
     ⟨.pick (.t 27) (.t 30) (.c (.bool false)), (some 31), none, true⟩,
     ⟨.mov (.t 31), (some 2), none, true⟩])
  (.ret)))))
theorem st4n : stmOf Tryd.prog 4 p4n = some (s4n, [.tmp 2], 32) := by kernel_rfl

theorem leB_unLe : ∀ s : List UInt8, leB (unLe s) s.length = s
  | [] => rfl
  | b :: s => by
    have e1 : (b.toNat + 256 * unLe s) / 256 = unLe s := by have := b.toNat_lt; omega
    have e2 : UInt8.ofNat (b.toNat + 256 * unLe s) = b := by
      have := b.toNat_lt
      apply UInt8.toNat_inj.1
      simp
    rw [unLe, List.length_cons, leB, e1, e2, leB_unLe s]
theorem bytes_ok {n : Int} {r : Rd} (hn : 0 ≤ n) (h : (rBytes n r).2.err = 0) : r.rest = (rBytes n r).1 ++ (rBytes n r).2.rest ∧ (rBytes n r).1.length = n.toNat := by
  have h0 := bytes_err h
  unfold rBytes at h ⊢
  have g : ¬ n < 0 := by omega
  simp only [if_neg g] at h ⊢
  by_cases c : (r.rest.length : Int) < n
  · simp only [if_pos c] at h
    have := fail_err (e := 4) (by decide) r
    rw [if_neg this] at h
    exact absurd h this
  · simp only [if_neg c, h0, if_true] at h ⊢
    exact ⟨(List.take_append_drop _ _).symm, by rw [List.length_take]; omega⟩
theorem number_ok {m : Nat} {r : Rd} (h : (rNumber m r).2.err = 0) : r.rest = leB (rNumber m r).1 m ++ (rNumber m r).2.rest := by
  obtain ⟨h1, h2⟩ := bytes_ok (by omega) h
  have h3 : leB (rNumber m r).1 m = (rBytes m r).1 := by
    have := leB_unLe (rBytes m r).1
    rw [h2, Int.toNat_natCast] at this
    exact this
  rw [h3]; exact h1
theorem text_ok {most : Nat} {r : Rd} (h : (rText most r).2.err = 0) : r.rest = leB (rText most r).1.length 4 ++ (rText most r).1 ++ (rText most r).2.rest ∧ (rText most r).1.length ≤ most := by
  have h1 := bytes_err h
  have hc : rCount most r = (((rNumber 4 r).1 : Int), (rNumber 4 r).2) ∧ (rNumber 4 r).1 ≤ most := by
    unfold rCount at h1 ⊢
    split at h1
    · exact absurd h1 (fail_err (by decide) _)
    · rename_i c
      rw [if_neg c]
      exact ⟨rfl, by omega⟩
  have h2 : (rNumber 4 r).2.err = 0 := by rw [hc.1] at h1; exact h1
  have h3 := number_ok (m := 4) h2
  have ht : rText most r = rBytes (rNumber 4 r).1 (rNumber 4 r).2 := by unfold rText; rw [hc.1]
  rw [ht] at h ⊢
  obtain ⟨h4, h5⟩ := bytes_ok (by omega) h
  rw [Int.toNat_natCast] at h5
  rw [h5]
  refine ⟨?_, hc.2⟩
  rw [List.append_assoc, ← h4]; exact h3
theorem takeL_err {g : Rd → Int → Nd × Rd × Int} : ∀ {c : Nat} {r : Rd} {left : Int} {acc : List Nd}, (takeL g c r left acc).2.1.err = 0 → r.err = 0 := by
  intro c
  induction c with
  | zero => intro r left acc h; exact h
  | succ c ih =>
    intro r left acc h
    unfold takeL at h
    by_cases e : r.err = 0
    · exact e
    · rw [if_neg e] at h; exact h
/-- What was taken is what would be put. -/
def tookN (r : Rd) (left : Int) (z : Nd × Rd × Int) : Prop := r.rest = encF z.1 ++ z.2.1.rest ∧ z.2.2 = left - z.1.cnt ∧ (encF z.1).length ≤ 79 * z.1.cnt
theorem takeL_took {g : Rd → Int → Nd × Rd × Int} {F : Int} (hl : ∀ r l, 0 ≤ l → (g r l).2.1.err = 0 → 0 ≤ (g r l).2.2) (hg : ∀ r l, 0 ≤ l → l < F → (g r l).2.1.err = 0 → tookN r l (g r l)) (hs : ∀ r l, (g r l).2.1.err = 0 → r.err = 0) :
    ∀ (c : Nat) (r : Rd) (left : Int) (acc : List Nd), (r.err = 0 → 0 ≤ left) → left < F → (takeL g c r left acc).2.1.err = 0 → ∃ l, (takeL g c r left acc).1 = acc ++ l ∧ l.length = c ∧ r.rest = encFs l ++ (takeL g c r left acc).2.1.rest ∧ (takeL g c r left acc).2.2 = left - Nd.cnts l ∧ (encFs l).length ≤ 79 * Nd.cnts l
  | 0, r, left, acc, _, _, h => ⟨[], by simp [takeL, encFs_nil, cnts_nil]⟩
  | c + 1, r, left, acc, h0, hF, h => by
    unfold takeL at h ⊢
    by_cases e : r.err = 0
    · rw [if_pos e] at h ⊢
      have e1 := takeL_err h
      have k1 := hg r left (h0 e) hF e1
      have hcp := cnt_pos (g r left).1
      obtain ⟨l, q1n, q2n, q3n, q4n, q5n⟩ := takeL_took hl hg hs c (g r left).2.1 (g r left).2.2 (acc ++ [(g r left).1]) (hl r left (h0 e)) (by rw [k1.2.1]; omega) h
      refine ⟨(g r left).1 :: l, by rw [q1n]; simp, by simp [q2n], ?_, ?_, ?_⟩
      · rw [encFs_cons, List.append_assoc, ← q3n]; exact k1.1
      · rw [q4n, k1.2.1, cnts_cons]; omega
      · rw [encFs_cons, cnts_cons, List.length_append]; have := k1.2.2; omega
    · rw [if_neg e] at h
      exact absurd h e
theorem takeF_zero (r : Rd) (left deep : Int) : takeF 0 r left deep = (nd0, r, left) := by rw [takeF]
theorem takeF_succ (f : Nat) (r : Rd) (left deep : Int) : takeF (f + 1) r left deep = finF r left deep (takeL (fun r l => takeF f r l (deep + 1)) (hc r left deep).1 (hc r left deep).2 (left - 1) []) := by rw [takeF]
theorem finF_rd (r : Rd) (left deep : Int) (z : List Nd × Rd × Int) : (finF r left deep z).2.1 = z.2.1 := rfl
theorem head_rd {r : Rd} {left deep : Int} (h : (hc r left deep).2.err = 0) : r.err = 0 := by
  have h1 := number_err (number_err (text_err (number_err (number_err h))))
  unfold headF at h1
  split at h1
  · exact absurd h1 (fail_err (by decide) _)
  · exact h1
theorem takeF_err (f : Nat) (r : Rd) (left deep : Int) (h : (takeF f r left deep).2.1.err = 0) : r.err = 0 := by
  cases f with
  | zero => rw [takeF_zero] at h; exact h
  | succ f =>
    rw [takeF_succ, finF_rd] at h
    exact head_rd (takeL_err h)
theorem uB_nat {k m : Nat} (h : k < 18446744073709551616) : uB k m = leB k m := by
  unfold uB
  have : ((k : Int) % 18446744073709551616).toNat = k := by omega
  rw [this]
theorem uB_wrap {k m : Nat} (h : k < 18446744073709551616) : uB (IntKind.i64.wrap k) m = leB k m := by
  unfold uB
  obtain ⟨j, e, _, _⟩ : ∃ j : Int, IntKind.i64.wrap (k : Int) = k + 18446744073709551616 * j ∧ True ∧ True := by
    by_cases c : k < 9223372036854775808
    · exact ⟨0, by rw [wrap_i64 (by omega) (by omega)]; omega, trivial, trivial⟩
    · refine ⟨-1, ?_, trivial, trivial⟩
      have : IntKind.i64.wrap (k : Int) = k - 18446744073709551616 := by
        simp [IntKind.wrap, IntKind.bits, IntKind.signed]
        omega
      omega
  have : (IntKind.i64.wrap (k : Int) % 18446744073709551616).toNat = k := by rw [e]; omega
  rw [this]
theorem takeF_took (f : Nat) : ∀ (r : Rd) (left deep : Int), 0 ≤ left → left < f → (takeF f r left deep).2.1.err = 0 → tookN r left (takeF f r left deep) := by
  induction f with
  | zero => intro r left deep h0 h1 h; omega
  | succ f ih =>
    intro r left deep h0 h1 h
    rw [takeF_succ] at h ⊢
    rw [finF_rd] at h
    obtain ⟨l, q1n, q2n, q3n, q4n, q5n⟩ := takeL_took (F := f) (fun r l a b => (takeF_left f r l (deep + 1)).1 a b) (fun r l a b c => ih r l (deep + 1) a b c) (fun r l a => takeF_err f r l (deep + 1) a) (hc r left deep).1 (hc r left deep).2 (left - 1) [] head_err (by omega) h
    have e5 : (hc r left deep).2.err = 0 := takeL_err h
    generalize takeL (fun r l => takeF f r l (deep + 1)) (hc r left deep).1 (hc r left deep).2 (left - 1) [] = z at *
    have e4 : (hn r left deep).2.err = 0 := number_err e5
    have e3 : (hs r left deep).2.err = 0 := number_err e4
    have e2 : (ht r left deep).2.err = 0 := text_err e3
    have e1 := number_err e2
    have e0 : (headF r left deep).err = 0 := number_err e1
    have dp1 : rNumber ((1 : Nat) : Int) (headF r left deep) = hk r left deep := rfl
    have p1n : (headF r left deep).rest = leB (hk r left deep).1 1 ++ (hk r left deep).2.rest := by
      have := number_ok (m := 1) (r := headF r left deep) (by rw [dp1]; exact e1)
      rwa [dp1] at this
    have dp2 : rNumber ((1 : Nat) : Int) ((hk r left deep).2) = ht r left deep := rfl
    have p2n : (hk r left deep).2.rest = leB (ht r left deep).1 1 ++ (ht r left deep).2.rest := by
      have := number_ok (m := 1) (r := (hk r left deep).2) (by rw [dp2]; exact e2)
      rwa [dp2] at this
    have dp3 : rText ((64 : Nat) : Int) ((ht r left deep).2) = hs r left deep := rfl
    have p3n : (ht r left deep).2.rest = leB (hs r left deep).1.length 4 ++ (hs r left deep).1 ++ (hs r left deep).2.rest ∧ (hs r left deep).1.length ≤ 64 := by
      have := text_ok (most := 64) (r := (ht r left deep).2) (by rw [dp3]; exact e3)
      rwa [dp3] at this
    have dp4 : rNumber ((8 : Nat) : Int) ((hs r left deep).2) = hn r left deep := rfl
    have p4n : (hs r left deep).2.rest = leB (hn r left deep).1 8 ++ (hn r left deep).2.rest := by
      have := number_ok (m := 8) (r := (hs r left deep).2) (by rw [dp4]; exact e4)
      rwa [dp4] at this
    have dp5 : rNumber ((1 : Nat) : Int) ((hn r left deep).2) = hc r left deep := rfl
    have p5n : (hn r left deep).2.rest = leB (hc r left deep).1 1 ++ (hc r left deep).2.rest := by
      have := number_ok (m := 1) (r := (hn r left deep).2) (by rw [dp5]; exact e5)
      rwa [dp5] at this
    have b1 : (hk r left deep).1 < 256 := rNumber_lt 1 _
    have b2 : (ht r left deep).1 < 256 := rNumber_lt 1 _
    have b4 : (hn r left deep).1 < 18446744073709551616 := rNumber_lt 8 _
    have hh : headF r left deep = r := by
      unfold headF at e0 ⊢
      split at e0
      · exact absurd e0 (fail_err (by decide) _)
      · rename_i c; rw [if_neg c]
    rw [hh] at p1n
    have hF : finF r left deep z = (.mk (hk r left deep).1 (ht r left deep).1 (hs r left deep).1 (IntKind.i64.wrap ((hn r left deep).1 : Int)) l, z.2.1, z.2.2) := by
      unfold finF
      rw [if_pos h, q1n, List.nil_append]
    rw [hF]
    refine ⟨?_, ?_, ?_⟩
    · simp only [encF_mk]
      rw [uB_nat (by omega), uB_nat (by omega), uB_wrap b4, q2n]
      rw [p1n, p2n, p3n.1, p4n, p5n, q3n]
      simp only [List.append_assoc]
    · simp only [cnt_mk]
      rw [q4n]; omega
    · simp only [encF_mk, cnt_mk, List.length_append, uB, len_leB]
      have := p3n.2
      omega
theorem end_ok {r : Rd} (h : (rEnd r).err = 0) : r.err = 0 ∧ r.rest = [] := by
  unfold rEnd at h
  split at h
  · exact absurd h (fail_err (by decide) _)
  · rename_i c
    exact ⟨h, List.length_eq_zero_iff.1 (by omega)⟩
theorem decode_law (s : List UInt8) : ((decodeF s).2 = 0 ∧ encF (decodeF s).1 = s ∧ (decodeF s).1.cnt ≤ 2000 ∧ s.length ≤ 158000) ∨ ((decodeF s).2 ≠ 0 ∧ (decodeF s).1 = nd0) := by
  have kk := takeF_took 2001 ⟨s, 0, 0⟩ 2000 0 (by omega) (by omega)
  have kl := (takeF_left 2001 ⟨s, 0, 0⟩ 2000 0).1 (by omega)
  unfold decodeF
  generalize takeF 2001 ⟨s, 0, 0⟩ 2000 0 = z at kk kl ⊢
  by_cases c : (rEnd z.2.1).err = 0
  · left
    rw [if_pos c]
    obtain ⟨e1, e2⟩ := end_ok c
    obtain ⟨k1, k2, k3⟩ := kk e1
    have k4 := kl e1
    rw [e2, List.append_nil] at k1
    simp only at k1 ⊢
    rw [k2] at k4
    refine ⟨trivial, k1.symm, by omega, ?_⟩
    rw [k1]; omega
  · right
    rw [if_neg c]
    exact ⟨c, rfl⟩
theorem astReads_c (s : List UInt8) : PCall Tryd.prog 4 [.str s] (.bool true) := by
  refine PCall.run tb12n_ok st4n (by simp) fun E => ?_
  have e1 : q11n [.str s] = some (.tuple [.agg (decodeF s).1.enc, .int .i64 (decodeF s).2]) := by simp only [q11n, if_true]
  have e0 : q12n [] = some (.bool true) := by simp only [q12n, if_true]
  rcases decode_law s with ⟨h1, h2, h3, h4⟩ | ⟨h1, h2⟩
  · generalize decodeF s = z at *
    obtain ⟨n, e⟩ := z
    simp only at h1 h2 h3 e1
    subst h1
    have e2 : q13n [.agg n.enc] = some (.str s) := by
      simp only [q13n, decN_enc, h2]
      rw [if_pos (by omega)]
    have e3 : q14n [.agg n.enc] = some (.int .i64 n.cnt) := by
      simp only [q14n, decN_enc]
      rw [if_pos (by omega)]
    have hc : ((n.cnt : Int) ≤ 2000) = True := eq_true (by omega)
    generalize n.cnt = k at *
    clear h2
    obtain ⟨nk, nt, ns, nn, nl⟩ := n
    rw [enc_mk] at *
    simp (config := {maxSteps := 1000000}) only [s4n, e0, e1, e2, e3, hc, beq_self_eq_true, tb41n_e, tbLp_e, tb12n_e, i_callNe, keptAt, Int.natCast_nonneg, Nat.le_refl, Int.le_refl, List.take_succ_cons, List.take_zero, decide_true, decide_false, Bool.and_false, Bool.false_and, zz, zzN, zzF, fltEv, isArithF, ↓reduceIte, Nat.reduceEqDiff, Nat.reduceBEq, Int.reduceLT, Int.reduceLE, Int.reduceToNat, Int.reduceEq, Int.reduceAdd, Int.reduceSub, Int.reduceMul, Int.reduceNeg, Nat.reduceMul, Nat.reduceSub, Nat.reduceLeDiff, Nat.reduceLT, Int.reduceGT, Int.reduceGE, Int.reduceBEq, Int.reduceBNe, reduceCtorEq, Nat.reduceAdd, Ins.map, Fr.ev, argFr, argE, binEv, intEv, shEv, strEv, unEv, Fr.mark, evRes, tup, lenD, lookupD, loadD, partD, storeD, cellsD, cellOk, setAt, objNe, objSame, eqEv, readEv, lent_bool, lent_int, lent_float, lent_str, lent_agg, lent_tuple, lent_sl, lent_func, lent_iface, lent_nilif, lent_same, buildD, buildRows, rowsOf, elemsOf, normX, unnil, isNil, List.any_cons, List.any_nil, List.map_cons, List.map_nil, Bool.or_false, Bool.false_or, Bool.or_true, Bool.true_or, cond_true, cond_false]
  · generalize decodeF s = z at *
    obtain ⟨n, e⟩ := z
    simp only at h1 h2 e1
    subst h2
    have hc : (e != 0) = true := by simpa using h1
    simp (config := {maxSteps := 1000000}) only [s4n, e0, e1, hc, nd0, enc_mk, encs_nil, tb41n_e, tbLp_e, tb12n_e, i_callNe, keptAt, Int.natCast_nonneg, Nat.le_refl, Int.le_refl, List.take_succ_cons, List.take_zero, decide_true, decide_false, Bool.and_false, Bool.false_and, zz, zzN, zzF, fltEv, isArithF, ↓reduceIte, Nat.reduceEqDiff, Nat.reduceBEq, Int.reduceLT, Int.reduceLE, Int.reduceToNat, Int.reduceEq, Int.reduceAdd, Int.reduceSub, Int.reduceMul, Int.reduceNeg, Nat.reduceMul, Nat.reduceSub, Nat.reduceLeDiff, Nat.reduceLT, Int.reduceGT, Int.reduceGE, Int.reduceBEq, Int.reduceBNe, reduceCtorEq, Nat.reduceAdd, Ins.map, Fr.ev, argFr, argE, binEv, intEv, shEv, strEv, unEv, Fr.mark, evRes, tup, lenD, lookupD, loadD, partD, storeD, cellsD, cellOk, setAt, objNe, objSame, eqEv, readEv, lent_bool, lent_int, lent_float, lent_str, lent_agg, lent_tuple, lent_sl, lent_func, lent_iface, lent_nilif, lent_same, buildD, buildRows, rowsOf, elemsOf, normX, unnil, isNil, List.any_cons, List.any_nil, List.map_cons, List.map_nil, Bool.or_false, Bool.false_or, Bool.or_true, Bool.true_or, cond_true, cond_false]
end
end Go.Proofs.YthpgepillaeldaaDoor.Zz
