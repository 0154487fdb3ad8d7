/- The plain law of parts: unlike parts have unlike texts; and the statement of parts. -/
import Derived.Test.YtiilnakenlegmaaZK15
import Derived.OpenShut
namespace Go.Proofs.Ytiilnakenlegmaa.Zz
set_option linter.unusedVariables false
set_option linter.unusedSimpArgs false
set_option maxRecDepth 20000
def p7 : Plan := ⟨⟨[(1, 0), (1, 1)], [], [(15, 2), (15, 6)], [], [], []⟩, [(15, [0, 1, 2, 3, 4, 5, 6, 7, 8, 9])]⟩
/-- cupel/cupellaw01.ShaParts (3 parameters, 0 captured) -/
def s7 : Stm :=
  .seq (.ops [⟨.box (.t 2), (some 5), none, false⟩,
     ⟨.mov (.c (.bool false)), (some 6), none, true⟩])
  (.seq (.ops [⟨.buildSlice 1 [(.str [])] 0 [] true, (some 17), none, false⟩,
     ⟨.buildSlice 1 [(.str [])] 0 [] true, (some 18), none, false⟩,
     ⟨.mov (.t 17), (some 7), none, true⟩,
     ⟨.mov (.t 18), (some 8), none, true⟩])
  (.seq (.seq (.ops [⟨.mov (.c (.int .i64 0)), (some 9), none, true⟩])
   (.block 0 (.loop (.seq (.seq (.ops [⟨.mov (.t 9), (some 19), none, true⟩,
         ⟨.indexAddrA 2 1 (.t 5) (.c (.int .i64 0)), (some 20), none, true⟩,
         ⟨.load none (.t 20), (some 21), none, false⟩,
         ⟨.len .sl (.t 21), (some 22), none, false⟩,
         ⟨.bin .lss (.t 19) (.t 22), (some 23), none, true⟩,
         ⟨.mov (.t 23), (some 24), none, true⟩,
         ⟨.mov (.t 9), (some 25), (some (24, true)), true⟩,
         ⟨.bin .lss (.t 25) (.c (.int .i64 8)), (some 26), (some (24, true)), true⟩,
         ⟨.pick (.t 24) (.t 26) (.c (.bool false)), (some 27), none, true⟩])
      (.cond (.t 27)
       (.skip)
       (.exit 0)))
     (.seq (.block 1 (.ops [⟨.mov (.t 7), (some 30), none, true⟩,
         ⟨.indexAddrA 2 1 (.t 5) (.c (.int .i64 0)), (some 31), none, true⟩,
         ⟨.load none (.t 31), (some 32), none, false⟩,
         ⟨.mov (.t 9), (some 33), none, true⟩,
         ⟨.indexAddrS 1 (.t 32) (.t 33), (some 34), none, false⟩,
         ⟨.load none (.t 34), (some 35), none, false⟩,
         ⟨.qcall (.f 12) [(.t 35)], (some 36), none, false⟩,
         ⟨.buildSlice 1 [(.str [])] 1 [(0, (.t 36))] false, (some 37), none, true⟩,
         ⟨.append 1 16 false (.t 30) (.t 37), (some 38), none, false⟩,
         ⟨.mov (.t 38), (some 7), none, true⟩]))
     (.ops [⟨.mov (.t 9), (some 28), none, true⟩,
       ⟨.bin .add (.t 28) (.c (.int .i64 1)), (some 29), none, true⟩,
       ⟨.mov (.t 29), (some 9), none, true⟩]))))))
  (.seq (.seq (.ops [⟨.mov (.c (.int .i64 0)), (some 10), none, true⟩])
   (.block 2 (.loop (.seq (.seq (.ops [⟨.mov (.t 10), (some 39), none, true⟩,
         ⟨.indexAddrA 2 1 (.t 5) (.c (.int .i64 1)), (some 40), none, true⟩,
         ⟨.load none (.t 40), (some 41), none, false⟩,
         ⟨.len .sl (.t 41), (some 42), none, false⟩,
         ⟨.bin .lss (.t 39) (.t 42), (some 43), none, true⟩,
         ⟨.mov (.t 43), (some 44), none, true⟩,
         ⟨.mov (.t 10), (some 45), (some (44, true)), true⟩,
         ⟨.bin .lss (.t 45) (.c (.int .i64 8)), (some 46), (some (44, true)), true⟩,
         ⟨.pick (.t 44) (.t 46) (.c (.bool false)), (some 47), none, true⟩])
      (.cond (.t 47)
       (.skip)
       (.exit 2)))
     (.seq (.block 3 (.ops [⟨.mov (.t 8), (some 50), none, true⟩,
         ⟨.indexAddrA 2 1 (.t 5) (.c (.int .i64 1)), (some 51), none, true⟩,
         ⟨.load none (.t 51), (some 52), none, false⟩,
         ⟨.mov (.t 10), (some 53), none, true⟩,
         ⟨.indexAddrS 1 (.t 52) (.t 53), (some 54), none, false⟩,
         ⟨.load none (.t 54), (some 55), none, false⟩,
         ⟨.qcall (.f 12) [(.t 55)], (some 56), none, false⟩,
         ⟨.buildSlice 1 [(.str [])] 1 [(0, (.t 56))] false, (some 57), none, true⟩,
         ⟨.append 1 16 false (.t 50) (.t 57), (some 58), none, false⟩,
         ⟨.mov (.t 58), (some 8), none, true⟩]))
     (.ops [⟨.mov (.t 10), (some 48), none, true⟩,
       ⟨.bin .add (.t 48) (.c (.int .i64 1)), (some 49), none, true⟩,
       ⟨.mov (.t 49), (some 10), none, true⟩]))))))
  (.seq (.ops [⟨.mov (.t 0), (some 59), none, true⟩,
     ⟨.mov (.t 7), (some 60), none, true⟩,
     ⟨.qcall (.f 19) [(.t 59), (.t 60)], (some 61), none, false⟩,
     ⟨.mov (.t 1), (some 62), none, true⟩,
     ⟨.mov (.t 8), (some 63), none, true⟩,
     ⟨.qcall (.f 19) [(.t 62), (.t 63)], (some 64), none, false⟩,
     ⟨.mov (.t 61), (some 11), none, true⟩,
     ⟨.mov (.t 64), (some 12), none, true⟩])
  (.seq (.ops [⟨.mov (.t 0), (some 65), none, true⟩,
     ⟨.mov (.t 1), (some 66), none, true⟩,
     ⟨.bin .eql (.t 65) (.t 66), (some 67), none, true⟩,
     ⟨.mov (.t 67), (some 68), none, true⟩,
     ⟨.mov (.t 7), (some 69), (some (68, true)), true⟩,
     ⟨.len .sl (.t 69), (some 70), (some (68, true)), false⟩,
     ⟨.mov (.t 8), (some 71), (some (68, true)), true⟩,
     ⟨.len .sl (.t 71), (some 72), (some (68, true)), false⟩,
     ⟨.bin .eql (.t 70) (.t 72), (some 73), (some (68, true)), true⟩,
     ⟨.pick (.t 68) (.t 73) (.c (.bool false)), (some 74), none, true⟩,
     ⟨.mov (.t 74), (some 13), none, true⟩])
  (.seq (.seq (.ops [⟨.mov (.c (.int .i64 0)), (some 14), none, true⟩])
   (.block 4 (.loop (.seq (.seq (.ops [⟨.mov (.t 14), (some 75), none, true⟩,
         ⟨.mov (.t 7), (some 76), none, true⟩,
         ⟨.len .sl (.t 76), (some 77), none, false⟩,
         ⟨.bin .lss (.t 75) (.t 77), (some 78), none, true⟩,
         ⟨.mov (.t 78), (some 79), none, true⟩,
         ⟨.mov (.t 13), (some 80), (some (79, true)), true⟩,
         ⟨.pick (.t 79) (.t 80) (.c (.bool false)), (some 81), none, true⟩])
      (.cond (.t 81)
       (.skip)
       (.exit 4)))
     (.seq (.block 5 (.ops [⟨.mov (.t 7), (some 84), none, true⟩,
         ⟨.mov (.t 14), (some 85), none, true⟩,
         ⟨.indexAddrS 1 (.t 84) (.t 85), (some 86), none, false⟩,
         ⟨.load none (.t 86), (some 87), none, false⟩,
         ⟨.mov (.t 8), (some 88), none, true⟩,
         ⟨.mov (.t 14), (some 89), none, true⟩,
         ⟨.indexAddrS 1 (.t 88) (.t 89), (some 90), none, false⟩,
         ⟨.load none (.t 90), (some 91), none, false⟩,
         ⟨.bin .eql (.t 87) (.t 91), (some 92), none, true⟩,
         ⟨.mov (.t 92), (some 13), none, true⟩]))
     (.ops [⟨.mov (.t 14), (some 82), none, true⟩,
       ⟨.bin .add (.t 82) (.c (.int .i64 1)), (some 83), none, true⟩,
       ⟨.mov (.t 83), (some 14), none, true⟩]))))))
  (.seq (.seq (.ops [⟨.qcall (.f 8) [], (some 93), none, false⟩,
      ⟨.un .not (.t 93), (some 94), none, true⟩,
      ⟨.mov (.t 94), (some 95), none, true⟩,
      ⟨.mov (.t 11), (some 96), (some (95, false)), true⟩,
      ⟨.mov (.t 0), (some 97), (some (95, false)), true⟩,
      ⟨.mov (.t 7), (some 98), (some (95, false)), true⟩,
      ⟨.qcall (.f 20) [(.t 97), (.t 98)], (some 99), (some (95, false)), false⟩,
      ⟨.bin .neq (.t 96) (.t 99), (some 100), (some (95, false)), true⟩,
      ⟨.pick (.t 95) (.c (.bool true)) (.t 100), (some 101), none, true⟩,
      ⟨.mov (.t 101), (some 102), none, true⟩,
      ⟨.mov (.t 12), (some 103), (some (102, false)), true⟩,
      ⟨.mov (.t 1), (some 104), (some (102, false)), true⟩,
      ⟨.mov (.t 8), (some 105), (some (102, false)), true⟩,
      ⟨.qcall (.f 20) [(.t 104), (.t 105)], (some 106), (some (102, false)), false⟩,
      ⟨.bin .neq (.t 103) (.t 106), (some 107), (some (102, false)), true⟩,
      ⟨.pick (.t 102) (.c (.bool true)) (.t 107), (some 108), none, true⟩])
   (.cond (.t 108)
    (.seq (.ops [⟨.mov (.c (.bool false)), (some 6), none, true⟩])
     (.ret))
    (.skip)))
  (.seq (.ops [⟨.mov (.t 0), (some 109), none, true⟩,
     ⟨.mov (.t 7), (some 110), none, true⟩,
     ⟨.qcall (.f 21) [(.t 109), (.t 110)], (some 111), none, false⟩,
     ⟨.mov (.t 1), (some 112), none, true⟩,
     ⟨.mov (.t 8), (some 113), none, true⟩,
     ⟨.qcall (.f 21) [(.t 112), (.t 113)], (some 114), none, false⟩,
     ⟨.mov (.t 111), (some 15), none, true⟩,
     ⟨.mov (.t 114), (some 16), none, true⟩])
  (.seq (.seq (.ops [⟨.mov (.t 15), (some 115), none, true⟩,
      ⟨.mov (.t 16), (some 116), none, true⟩,
      ⟨.bin .neq (.t 115) (.t 116), (some 117), none, true⟩,
      ⟨.mov (.t 117), (some 118), none, true⟩,
      ⟨.mov (.t 11), (some 119), (some (118, true)), true⟩,
      ⟨.mov (.t 12), (some 120), (some (118, true)), true⟩,
      ⟨.bin .eql (.t 119) (.t 120), (some 121), (some (118, true)), true⟩,
      ⟨.pick (.t 118) (.t 121) (.c (.bool false)), (some 122), none, true⟩])
   (.cond (.t 122)
    (.seq (.ops [⟨.mov (.t 15), (some 123), none, true⟩,
        ⟨.mov (.t 16), (some 124), none, true⟩,
        ⟨.build [(.str []), (.str [])] [(0, 1, (.t 123)), (1, 1, (.t 124))], (some 125), none, true⟩,
        ⟨.qcall (.f 18) [(.t 125)], (some 126), none, false⟩,
        ⟨.mov (.t 126), (some 6), none, true⟩])
     (.ret))
    (.skip)))
  (.seq (.ops [⟨.mov (.t 15), (some 127), none, true⟩,
     ⟨.mov (.t 16), (some 128), none, true⟩,
     ⟨.bin .eql (.t 127) (.t 128), (some 129), none, true⟩,
     ⟨.mov (.t 13), (some 130), none, true⟩,
     ⟨.eql .bool false (.t 129) (.t 130), (some 131), none, true⟩,
     ⟨.mov (.t 131), (some 132), none, true⟩,
     ⟨.mov (.t 11), (some 133), (some (132, true)), true⟩,
     ⟨.mov (.t 12), (some 134), (some (132, true)), true⟩,
     ⟨.bin .eql (.t 133) (.t 134), (some 135), (some (132, true)), true⟩,
     ⟨.mov (.t 13), (some 136), (some (132, true)), true⟩,
     ⟨.eql .bool false (.t 135) (.t 136), (some 137), (some (132, true)), true⟩,
     ⟨.pick (.t 132) (.t 137) (.c (.bool false)), (some 138), none, true⟩,
     ⟨.mov (.t 138), (some 6), none, true⟩])
  (.ret)))))))))))
theorem st7 : stmOf Try.prog 7 p7 = some (s7, [.tmp 6], 139) := by kernel_rfl

theorem sizeB_inj {n m : Nat} (hn : n < 65536) (hm : m < 65536) (h : sizeB n = sizeB m) : n = m := by
  have h0 : sizeAt n 0 = sizeAt m 0 := by
    have := congrArg (fun l : List UInt8 => l.getD 0 0) h
    simpa [sizeB] using this
  have h1 : sizeAt n 1 = sizeAt m 1 := by
    have := congrArg (fun l : List UInt8 => l.getD 1 0) h
    simpa [sizeB] using this
  have e0 := congrArg UInt8.toNat h0
  have e1 := congrArg UInt8.toNat h1
  simp only [sizeAt, UInt8.toNat_ofNat'] at e0 e1
  omega
theorem flat_app (l : List (List UInt8)) (s : List UInt8) : flatB (l ++ [s]) = (flatB l ++ s) ++ sizeB s.length := by
  unfold flatB
  rw [List.flatMap_append]
  simp
theorem flat_inj : ∀ (n : Nat) (a b : List (List UInt8)), a.length = n → (∀ s ∈ a, s.length < 65536) → (∀ s ∈ b, s.length < 65536) → flatB a = flatB b → a = b := by
  intro n
  induction n with
  | zero =>
    intro a b ha _ _ h
    have ha : a = [] := by simpa using ha
    subst ha
    rcases List.eq_nil_or_concat b with hb | ⟨b', t, hb⟩
    · exact hb.symm
    · rw [hb, List.concat_eq_append, flat_app] at h
      have := congrArg List.length h
      simp [len_sizeB, flatB] at this
  | succ n ih =>
    intro a b ha h1 h2 h
    rcases List.eq_nil_or_concat a with hb | ⟨a', s, hs⟩
    · subst hb; simp at ha
    rw [List.concat_eq_append] at hs
    subst hs
    rcases List.eq_nil_or_concat b with hb | ⟨b', t, hb⟩
    · subst hb
      rw [flat_app] at h
      have := congrArg List.length h
      simp [len_sizeB, flatB] at this
    rw [List.concat_eq_append] at hb
    subst hb
    rw [flat_app, flat_app] at h
    obtain ⟨e1, e2⟩ := List.append_inj' h (by rw [len_sizeB, len_sizeB])
    have e3 := sizeB_inj (h1 s (by simp)) (h2 t (by simp)) e2
    obtain ⟨e4, e5⟩ := List.append_inj' e1 e3
    have := ih a' b' (by simpa using ha) (fun x hx => h1 x (by simp [hx])) (fun x hx => h2 x (by simp [hx])) e4
    rw [this, e5]
theorem parts_inj {p q : Int} {a b : List (List UInt8)} (hp : 0 ≤ p ∧ p ≤ 255) (hq : 0 ≤ q ∧ q ≤ 255) (h1 : ∀ s ∈ a, s.length < 65536) (h2 : ∀ s ∈ b, s.length < 65536) (h : partsB (UInt8.ofNat p.toNat) a = partsB (UInt8.ofNat q.toNat) b) : p = q ∧ a = b := by
  unfold partsB at h
  obtain ⟨e1, e2⟩ := List.append_inj' h rfl
  refine ⟨?_, flat_inj _ a b rfl h1 h2 e1⟩
  have e3 : UInt8.ofNat p.toNat = UInt8.ofNat q.toNat := by simpa using e2
  rw [← u8_of p hp, ← u8_of q hq, e3]
def preS (l : List (List UInt8)) (i : Nat) : List (List UInt8) := (l.take i).map fun s => s.take 1200
theorem preS_succ {l : List (List UInt8)} {i : Nat} {x : List UInt8} (h : l[i]? = some x) : preS l (i + 1) = preS l i ++ [x.take 1200] := by
  unfold preS
  obtain ⟨h1, h2⟩ := List.getElem?_eq_some_iff.1 h
  rw [List.take_succ_eq_append_getElem h1, List.map_append, h2]
  rfl
theorem len_preS {l : List (List UInt8)} {i : Nat} (h : i ≤ l.length) : (preS l i).length = i := by simp [preS]; omega
theorem mem_preS {l : List (List UInt8)} {i : Nat} : ∀ s ∈ preS l i, s.length < 65536 := by
  intro s hs
  simp only [preS, List.mem_map] at hs
  obtain ⟨x, _, rfl⟩ := hs
  rw [List.length_take]
  omega
theorem flat_small : ∀ (l : List (List UInt8)), (∀ s ∈ l, s.length < 65536) → (flatB l).length ≤ l.length * 65600 := by
  intro l
  induction l with
  | nil => intro _; simp [flatB]
  | cons s l ih =>
    intro h
    have e : flatB (s :: l) = (s ++ sizeB s.length) ++ flatB l := by simp [flatB]
    have h1 := h s (by simp)
    have h2 := ih fun x hx => h x (by simp [hx])
    rw [e, List.length_append, List.length_append, len_sizeB, List.length_cons]
    omega
theorem okP_of {p : Int} {l : List (List UInt8)} (hp : 0 ≤ p ∧ p ≤ 255) (hl : l.length ≤ 8) (h : ∀ s ∈ l, s.length < 65536) : okP p l := by
  refine ⟨hp.1, hp.2, ?_⟩
  have := flat_small l h
  simp only [partsB, List.length_append, List.length_singleton]
  have : l.length * 65600 ≤ 8 * 65600 := Nat.mul_le_mul_right _ hl
  omega
set_option maxHeartbeats 8000000 in
theorem shaParts_c (p q : Int) (a b : List (List UInt8)) (hp : 0 ≤ p ∧ p ≤ 255) (hq : 0 ≤ q ∧ q ≤ 255) : PCall Try.prog 7 [.int .u8 p, .int .u8 q, .agg [.sl (encS a), .sl (encS b)]] (.bool true) := by
  refine PCall.run tb19_ok st7 (by simp) fun E => ?_
  have la : (encS a).length = a.length := len_encS
  have lb : (encS b).length = b.length := len_encS
  simp (config := {maxSteps := 1000000}) only [s7, tb10_e, tb19_e, Int.natCast_nonneg, Nat.le_refl, Int.le_refl, List.take_succ_cons, List.take_zero, decide_true, decide_false, Bool.and_false, Bool.false_and, zz, zzN, zzF, fltEv, isArithF, ↓reduceIte, Nat.reduceEqDiff, Nat.reduceBEq, Int.reduceLT, Int.reduceLE, Int.reduceToNat, Int.reduceEq, Int.reduceAdd, Int.reduceSub, Int.reduceMul, Int.reduceNeg, Nat.reduceMul, Nat.reduceSub, Nat.reduceLeDiff, Nat.reduceLT, Int.reduceGT, Int.reduceBEq, Int.reduceBNe, reduceCtorEq, Nat.reduceAdd, Ins.map, Fr.ev, argFr, argE, binEv, intEv, shEv, strEv, unEv, Fr.mark, evRes, tup, lenD, lookupD, loadD, partD, storeD, cellsD, cellOk, setAt, objNe, objSame, eqEv, readEv, buildD, buildRows, rowsOf, elemsOf]
  intro e ra n1 n2 rb n3 n4 n5 n6
  refine run_loop (X := Nat) (fun i => [(0, .int .u8 p), (1, .int .u8 q), (5, .ptr e 1 0), (7, .row ra (i + 2) 0 i), (8, .row rb 2 0 0), (9, .int .i64 i)])
    (fun i => ((AHeap.emp.set e (.cells [.sl (encS a), .sl (encS b)])).set ra (.row 1 (i + 2) (encS (preS a i)) false)).set rb (.row 1 2 (encS []) false)) (fun i => 8 - i) (fun i => i ≤ 8 ∧ i ≤ a.length) 0 (by simp) ?_ ?_ ?_
  · simp only [Int.natCast_nonneg, Nat.le_refl, Int.le_refl, List.take_succ_cons, List.take_zero, decide_true, decide_false, Bool.and_false, Bool.false_and, zz, zzN, zzF, fltEv, isArithF, ↓reduceIte, Nat.reduceEqDiff, Nat.reduceBEq, Int.reduceLT, Int.reduceLE, Int.reduceToNat, Int.reduceEq, Int.reduceAdd, Int.reduceSub, Int.reduceMul, Int.reduceNeg, Nat.reduceMul, Nat.reduceSub, Nat.reduceLeDiff, Nat.reduceLT, Int.reduceGT, Int.reduceBEq, Int.reduceBNe, reduceCtorEq, Nat.reduceAdd, Ins.map, Fr.ev, argFr, argE, binEv, intEv, shEv, strEv, unEv, Fr.mark, evRes, tup, lenD, lookupD, loadD, partD, storeD, cellsD, cellOk, setAt, objNe, objSame, eqEv, readEv, buildD, buildRows, rowsOf, elemsOf]
  · exact AHeap.sub_refl _
  rintro i Q ⟨hi, hia⟩ hQ
  have lA : (encS (preS a i)).length = i := by rw [len_encS, len_preS hia]
  have go : ((i : Int) < (a.length : Int)) = True ∧ ((i : Int) < 8) = True ∨ (((i : Int) < (a.length : Int)) = True ∧ ((i : Int) < 8) = False ∨ ((i : Int) < (a.length : Int)) = False) := by
    by_cases c1 : i < a.length <;> by_cases c2 : i < 8
    · exact .inl ⟨eq_true (by omega), eq_true (by omega)⟩
    · exact .inr (.inl ⟨eq_true (by omega), eq_false (by omega)⟩)
    · exact .inr (.inr (eq_false (by omega)))
    · exact .inr (.inr (eq_false (by omega)))
  rcases go with ⟨g1, g2⟩ | go
  · have c1 : i < a.length := by have := of_eq_true g1; omega
    have c2 : i < 8 := by have := of_eq_true g2; omega
    have wi : IntKind.i64.wrap ((i : Int) + 1) = ((i + 1 : Nat) : Int) := wrap_succ (by omega)
    obtain ⟨x, hx⟩ : ∃ x, a[i]? = some x := ⟨a[i], List.getElem?_eq_getElem c1⟩
    have ae : ∀ (K : D → AHeap → Prop) (h : AHeap), askE 1 K h (encS a) (i : Int) = K (.eptr [.str x] 0) h := fun K h => askE_strs hx
    have qx := q12_eq x
    have f := preS_succ hx
    generalize preS a i = A at *
    simp (config := {maxSteps := 1000000}) only [la, g1, g2, ae, qx, wi, lA, n1, n2, n3, n4, n5, n6, encS_app, ← f, tb10_e, tb19_e, Int.natCast_nonneg, Nat.le_refl, Int.le_refl, List.take_succ_cons, List.take_zero, decide_true, decide_false, Bool.and_false, Bool.false_and, zz, zzN, zzF, fltEv, isArithF, ↓reduceIte, Nat.reduceEqDiff, Nat.reduceBEq, Int.reduceLT, Int.reduceLE, Int.reduceToNat, Int.reduceEq, Int.reduceAdd, Int.reduceSub, Int.reduceMul, Int.reduceNeg, Nat.reduceMul, Nat.reduceSub, Nat.reduceLeDiff, Nat.reduceLT, Int.reduceGT, Int.reduceBEq, Int.reduceBNe, reduceCtorEq, Nat.reduceAdd, Ins.map, Fr.ev, argFr, argE, binEv, intEv, shEv, strEv, unEv, Fr.mark, evRes, tup, lenD, lookupD, loadD, partD, storeD, cellsD, cellOk, setAt, objNe, objSame, eqEv, readEv, buildD, buildRows, rowsOf, elemsOf]
    intro _
    refine ⟨by omega, hQ (i + 1) _ _ ⟨by omega, by omega⟩ (by simp only [show i + 2 + 1 = i + 1 + 2 from rfl, Int.natCast_nonneg, Nat.le_refl, Int.le_refl, List.take_succ_cons, List.take_zero, decide_true, decide_false, Bool.and_false, Bool.false_and, zz, zzN, zzF, fltEv, isArithF, ↓reduceIte, Nat.reduceEqDiff, Nat.reduceBEq, Int.reduceLT, Int.reduceLE, Int.reduceToNat, Int.reduceEq, Int.reduceAdd, Int.reduceSub, Int.reduceMul, Int.reduceNeg, Nat.reduceMul, Nat.reduceSub, Nat.reduceLeDiff, Nat.reduceLT, Int.reduceGT, Int.reduceBEq, Int.reduceBNe, reduceCtorEq, Nat.reduceAdd, Ins.map, Fr.ev, argFr, argE, binEv, intEv, shEv, strEv, unEv, Fr.mark, evRes, tup, lenD, lookupD, loadD, partD, storeD, cellsD, cellOk, setAt, objNe, objSame, eqEv, readEv, buildD, buildRows, rowsOf, elemsOf]) ?_ (by omega)⟩
    exact AHeap.sub_X (by repeat' first | with_reducible exact AHeap.subX_refl | with_reducible exact AHeap.subX_emp | refine AHeap.subX_l (by simp [n1, n2, n3, n4, n5, n6]) ?_ | refine AHeap.subX_r (by simp [n1, n2, n3, n4, n5, n6]) ?_)
  · have sA : ∀ s ∈ preS a i, s.length < 65536 := mem_preS
    have oA := okP_of hp (by rw [len_preS hia]; omega) sA
    have tA : (preS a i).length = i := len_preS hia
    clear hQ
    generalize preS a i = A at *
    rcases go with ⟨g1, g2⟩ | g1
    · simp (config := {maxSteps := 1000000}) only [la, g1, g2, n1, n2, n3, n4, n5, n6, tb10_e, tb19_e, Int.natCast_nonneg, Nat.le_refl, Int.le_refl, List.take_succ_cons, List.take_zero, decide_true, decide_false, Bool.and_false, Bool.false_and, zz, zzN, zzF, fltEv, isArithF, ↓reduceIte, Nat.reduceEqDiff, Nat.reduceBEq, Int.reduceLT, Int.reduceLE, Int.reduceToNat, Int.reduceEq, Int.reduceAdd, Int.reduceSub, Int.reduceMul, Int.reduceNeg, Nat.reduceMul, Nat.reduceSub, Nat.reduceLeDiff, Nat.reduceLT, Int.reduceGT, Int.reduceBEq, Int.reduceBNe, reduceCtorEq, Nat.reduceAdd, Ins.map, Fr.ev, argFr, argE, binEv, intEv, shEv, strEv, unEv, Fr.mark, evRes, tup, lenD, lookupD, loadD, partD, storeD, cellsD, cellOk, setAt, objNe, objSame, eqEv, readEv, buildD, buildRows, rowsOf, elemsOf]
      intro _
      refine run_loop (X := Nat) (fun j => [(0, .int .u8 p), (1, .int .u8 q), (5, .ptr e 1 0), (7, .row ra (i + 2) 0 i), (8, .row rb (j + 2) 0 j), (10, .int .i64 j)])
        (fun j => ((AHeap.emp.set e (.cells [.sl (encS a), .sl (encS b)])).set ra (.row 1 (i + 2) (encS A) false)).set rb (.row 1 (j + 2) (encS (preS b j)) false)) (fun j => 8 - j) (fun j => j ≤ 8 ∧ j ≤ b.length) 0 (by simp) ?_ ?_ ?_
      · simp only [Int.natCast_nonneg, Nat.le_refl, Int.le_refl, List.take_succ_cons, List.take_zero, decide_true, decide_false, Bool.and_false, Bool.false_and, zz, zzN, zzF, fltEv, isArithF, ↓reduceIte, Nat.reduceEqDiff, Nat.reduceBEq, Int.reduceLT, Int.reduceLE, Int.reduceToNat, Int.reduceEq, Int.reduceAdd, Int.reduceSub, Int.reduceMul, Int.reduceNeg, Nat.reduceMul, Nat.reduceSub, Nat.reduceLeDiff, Nat.reduceLT, Int.reduceGT, Int.reduceBEq, Int.reduceBNe, reduceCtorEq, Nat.reduceAdd, Ins.map, Fr.ev, argFr, argE, binEv, intEv, shEv, strEv, unEv, Fr.mark, evRes, tup, lenD, lookupD, loadD, partD, storeD, cellsD, cellOk, setAt, objNe, objSame, eqEv, readEv, buildD, buildRows, rowsOf, elemsOf]
      · exact AHeap.sub_refl _
      rintro j Q ⟨hj, hjb⟩ hQ
      have lB : (encS (preS b j)).length = j := by rw [len_encS, len_preS hjb]
      have go : ((j : Int) < (b.length : Int)) = True ∧ ((j : Int) < 8) = True ∨ (((j : Int) < (b.length : Int)) = True ∧ ((j : Int) < 8) = False ∨ ((j : Int) < (b.length : Int)) = False) := by
        by_cases c1 : j < b.length <;> by_cases c2 : j < 8
        · exact .inl ⟨eq_true (by omega), eq_true (by omega)⟩
        · exact .inr (.inl ⟨eq_true (by omega), eq_false (by omega)⟩)
        · exact .inr (.inr (eq_false (by omega)))
        · exact .inr (.inr (eq_false (by omega)))
      rcases go with ⟨g1, g2⟩ | go
      · have c1 : j < b.length := by have := of_eq_true g1; omega
        have c2 : j < 8 := by have := of_eq_true g2; omega
        have wj : IntKind.i64.wrap ((j : Int) + 1) = ((j + 1 : Nat) : Int) := wrap_succ (by omega)
        obtain ⟨x, hx⟩ : ∃ x, b[j]? = some x := ⟨b[j], List.getElem?_eq_getElem c1⟩
        have ae : ∀ (K : D → AHeap → Prop) (h : AHeap), askE 1 K h (encS b) (j : Int) = K (.eptr [.str x] 0) h := fun K h => askE_strs hx
        have qx := q12_eq x
        have f := preS_succ hx
        generalize preS b j = B at *
        simp (config := {maxSteps := 1000000}) only [lb, g1, g2, ae, qx, wj, lB, n1, n2, n3, n4, n5, n6, encS_app, ← f, tb10_e, tb19_e, Int.natCast_nonneg, Nat.le_refl, Int.le_refl, List.take_succ_cons, List.take_zero, decide_true, decide_false, Bool.and_false, Bool.false_and, zz, zzN, zzF, fltEv, isArithF, ↓reduceIte, Nat.reduceEqDiff, Nat.reduceBEq, Int.reduceLT, Int.reduceLE, Int.reduceToNat, Int.reduceEq, Int.reduceAdd, Int.reduceSub, Int.reduceMul, Int.reduceNeg, Nat.reduceMul, Nat.reduceSub, Nat.reduceLeDiff, Nat.reduceLT, Int.reduceGT, Int.reduceBEq, Int.reduceBNe, reduceCtorEq, Nat.reduceAdd, Ins.map, Fr.ev, argFr, argE, binEv, intEv, shEv, strEv, unEv, Fr.mark, evRes, tup, lenD, lookupD, loadD, partD, storeD, cellsD, cellOk, setAt, objNe, objSame, eqEv, readEv, buildD, buildRows, rowsOf, elemsOf]
        intro _
        refine ⟨by omega, hQ (j + 1) _ _ ⟨by omega, by omega⟩ (by simp only [show j + 2 + 1 = j + 1 + 2 from rfl, Int.natCast_nonneg, Nat.le_refl, Int.le_refl, List.take_succ_cons, List.take_zero, decide_true, decide_false, Bool.and_false, Bool.false_and, zz, zzN, zzF, fltEv, isArithF, ↓reduceIte, Nat.reduceEqDiff, Nat.reduceBEq, Int.reduceLT, Int.reduceLE, Int.reduceToNat, Int.reduceEq, Int.reduceAdd, Int.reduceSub, Int.reduceMul, Int.reduceNeg, Nat.reduceMul, Nat.reduceSub, Nat.reduceLeDiff, Nat.reduceLT, Int.reduceGT, Int.reduceBEq, Int.reduceBNe, reduceCtorEq, Nat.reduceAdd, Ins.map, Fr.ev, argFr, argE, binEv, intEv, shEv, strEv, unEv, Fr.mark, evRes, tup, lenD, lookupD, loadD, partD, storeD, cellsD, cellOk, setAt, objNe, objSame, eqEv, readEv, buildD, buildRows, rowsOf, elemsOf]) ?_ (by omega)⟩
        exact AHeap.sub_X (by repeat' first | with_reducible exact AHeap.subX_refl | with_reducible exact AHeap.subX_emp | refine AHeap.subX_l (by simp [n1, n2, n3, n4, n5, n6]) ?_ | refine AHeap.subX_r (by simp [n1, n2, n3, n4, n5, n6]) ?_)
      · have sB : ∀ s ∈ preS b j, s.length < 65536 := mem_preS
        have oB := okP_of hq (by rw [len_preS hjb]; omega) sB
        have tB : (preS b j).length = j := len_preS hjb
        clear hQ
        generalize preS b j = B at *
        have inj := fun h => parts_inj hp hq sA sB h
        have q1 := q19_eq oA
        have q2 := q19_eq oB
        have q3 := q20_eq oA
        have q4 := q20_eq oB
        have q5 := q21_eq oA
        have q6 := q21_eq oB
        have le1 : (encS A).take i = encS A := List.take_of_length_le (by omega)
        have le2 : (encS B).take j = encS B := List.take_of_length_le (by omega)
        have eqs : p = q → A = B → partsB (UInt8.ofNat p.toNat) A = partsB (UInt8.ofNat q.toNat) B := fun h1 h2 => by rw [h1, h2]
        generalize partsB (UInt8.ofNat p.toNat) A = S at *
        generalize partsB (UInt8.ofNat q.toNat) B = T at *
        have bpl : ((p == q) = false) ∨ ((p == q) = true ∧ ((i : Int) == (j : Int)) = false) ∨ ((p == q) = true ∧ ((i : Int) == (j : Int)) = true) := by
          cases (p == q) <;> cases ((i : Int) == (j : Int)) <;> simp
        rcases go with ⟨g1, g2⟩ | g1 <;> rcases bpl with bp | ⟨bp, bl⟩ | ⟨bp, bl⟩
        · simp (config := {maxSteps := 1000000}) only [lb, g1, g2, bp, lA, lB, le1, le2, n1, n2, n3, n4, n5, n6, q1, q2, tb10_e, tb19_e, Int.natCast_nonneg, Nat.le_refl, Int.le_refl, List.take_succ_cons, List.take_zero, decide_true, decide_false, Bool.and_false, Bool.false_and, zz, zzN, zzF, fltEv, isArithF, ↓reduceIte, Nat.reduceEqDiff, Nat.reduceBEq, Int.reduceLT, Int.reduceLE, Int.reduceToNat, Int.reduceEq, Int.reduceAdd, Int.reduceSub, Int.reduceMul, Int.reduceNeg, Nat.reduceMul, Nat.reduceSub, Nat.reduceLeDiff, Nat.reduceLT, Int.reduceGT, Int.reduceBEq, Int.reduceBNe, reduceCtorEq, Nat.reduceAdd, Ins.map, Fr.ev, argFr, argE, binEv, intEv, shEv, strEv, unEv, Fr.mark, evRes, tup, lenD, lookupD, loadD, partD, storeD, cellsD, cellOk, setAt, objNe, objSame, eqEv, readEv, buildD, buildRows, rowsOf, elemsOf]
          intro _
          refine run_loop (X := Nat × Bool) (fun x => [(0, .int .u8 p), (1, .int .u8 q), (7, .row ra (i + 2) 0 i), (8, .row rb (j + 2) 0 j), (11, .str (shaB S)), (12, .str (shaB T)), (13, .bool x.2), (14, .int .i64 x.1)])
            (fun x => (AHeap.emp.set ra (.row 1 (i + 2) (encS A) true)).set rb (.row 1 (j + 2) (encS B) true)) (fun x => i - x.1) (fun x => x.1 ≤ i ∧ (x.2 = true → p = q ∧ i = j ∧ A.take x.1 = B.take x.1) ∧ (x.2 = false → ¬ (p = q ∧ A = B))) (0, false) ?_ ?_ ?_ ?_
          · refine ⟨by omega, by simp, fun _ h => ?_⟩
            obtain ⟨h1, h2⟩ := h
            subst h1 h2
            first | (simp at bp; done) | (have : i = j := by omega
                                          subst this; simp at bl; done)
          · simp only [Int.natCast_nonneg, Nat.le_refl, Int.le_refl, List.take_succ_cons, List.take_zero, decide_true, decide_false, Bool.and_false, Bool.false_and, zz, zzN, zzF, fltEv, isArithF, ↓reduceIte, Nat.reduceEqDiff, Nat.reduceBEq, Int.reduceLT, Int.reduceLE, Int.reduceToNat, Int.reduceEq, Int.reduceAdd, Int.reduceSub, Int.reduceMul, Int.reduceNeg, Nat.reduceMul, Nat.reduceSub, Nat.reduceLeDiff, Nat.reduceLT, Int.reduceGT, Int.reduceBEq, Int.reduceBNe, reduceCtorEq, Nat.reduceAdd, Ins.map, Fr.ev, argFr, argE, binEv, intEv, shEv, strEv, unEv, Fr.mark, evRes, tup, lenD, lookupD, loadD, partD, storeD, cellsD, cellOk, setAt, objNe, objSame, eqEv, readEv, buildD, buildRows, rowsOf, elemsOf]
          · exact AHeap.sub_X (by repeat' first | with_reducible exact AHeap.subX_refl | with_reducible exact AHeap.subX_emp | refine AHeap.subX_l (by simp [n1, n2, n3, n4, n5, n6]) ?_ | refine AHeap.subX_r (by simp [n1, n2, n3, n4, n5, n6]) ?_)
          rintro ⟨k, sm⟩ Q ⟨hk, hT, hF⟩ hQ
          simp only at hk hT hF
          cases sm
          · have fin : S = T → p = q ∧ A = B := inj
            have ne : (S == T) = false := by
              cases e : S == T
              · rfl
              · exact absurd (inj (eq_of_beq e)) (hF rfl)
            by_cases c : k < i
            · have g3 : ((k : Int) < (i : Int)) = True := eq_true (by omega)
              cases es : (shaB S == shaB T)
              · simp (config := {maxSteps := 1000000}) only [g3, lA, lB, le1, le2, q3, q4, q5, q6, q8_eq, ne, es, q18_eq, n1, n2, n3, n4, n5, n6, tb10_e, tb19_e, Int.natCast_nonneg, Nat.le_refl, Int.le_refl, List.take_succ_cons, List.take_zero, decide_true, decide_false, Bool.and_false, Bool.false_and, zz, zzN, zzF, fltEv, isArithF, ↓reduceIte, Nat.reduceEqDiff, Nat.reduceBEq, Int.reduceLT, Int.reduceLE, Int.reduceToNat, Int.reduceEq, Int.reduceAdd, Int.reduceSub, Int.reduceMul, Int.reduceNeg, Nat.reduceMul, Nat.reduceSub, Nat.reduceLeDiff, Nat.reduceLT, Int.reduceGT, Int.reduceBEq, Int.reduceBNe, reduceCtorEq, Nat.reduceAdd, Ins.map, Fr.ev, argFr, argE, binEv, intEv, shEv, strEv, unEv, Fr.mark, evRes, tup, lenD, lookupD, loadD, partD, storeD, cellsD, cellOk, setAt, objNe, objSame, eqEv, readEv, buildD, buildRows, rowsOf, elemsOf]
              · simp (config := {maxSteps := 1000000}) only [g3, lA, lB, le1, le2, q3, q4, q5, q6, q8_eq, ne, es, q18_eq, n1, n2, n3, n4, n5, n6, tb10_e, tb19_e, Int.natCast_nonneg, Nat.le_refl, Int.le_refl, List.take_succ_cons, List.take_zero, decide_true, decide_false, Bool.and_false, Bool.false_and, zz, zzN, zzF, fltEv, isArithF, ↓reduceIte, Nat.reduceEqDiff, Nat.reduceBEq, Int.reduceLT, Int.reduceLE, Int.reduceToNat, Int.reduceEq, Int.reduceAdd, Int.reduceSub, Int.reduceMul, Int.reduceNeg, Nat.reduceMul, Nat.reduceSub, Nat.reduceLeDiff, Nat.reduceLT, Int.reduceGT, Int.reduceBEq, Int.reduceBNe, reduceCtorEq, Nat.reduceAdd, Ins.map, Fr.ev, argFr, argE, binEv, intEv, shEv, strEv, unEv, Fr.mark, evRes, tup, lenD, lookupD, loadD, partD, storeD, cellsD, cellOk, setAt, objNe, objSame, eqEv, readEv, buildD, buildRows, rowsOf, elemsOf]
            · have g3 : ((k : Int) < (i : Int)) = False := eq_false (by omega)
              cases es : (shaB S == shaB T)
              · simp (config := {maxSteps := 1000000}) only [g3, lA, lB, le1, le2, q3, q4, q5, q6, q8_eq, ne, es, q18_eq, n1, n2, n3, n4, n5, n6, tb10_e, tb19_e, Int.natCast_nonneg, Nat.le_refl, Int.le_refl, List.take_succ_cons, List.take_zero, decide_true, decide_false, Bool.and_false, Bool.false_and, zz, zzN, zzF, fltEv, isArithF, ↓reduceIte, Nat.reduceEqDiff, Nat.reduceBEq, Int.reduceLT, Int.reduceLE, Int.reduceToNat, Int.reduceEq, Int.reduceAdd, Int.reduceSub, Int.reduceMul, Int.reduceNeg, Nat.reduceMul, Nat.reduceSub, Nat.reduceLeDiff, Nat.reduceLT, Int.reduceGT, Int.reduceBEq, Int.reduceBNe, reduceCtorEq, Nat.reduceAdd, Ins.map, Fr.ev, argFr, argE, binEv, intEv, shEv, strEv, unEv, Fr.mark, evRes, tup, lenD, lookupD, loadD, partD, storeD, cellsD, cellOk, setAt, objNe, objSame, eqEv, readEv, buildD, buildRows, rowsOf, elemsOf]
              · simp (config := {maxSteps := 1000000}) only [g3, lA, lB, le1, le2, q3, q4, q5, q6, q8_eq, ne, es, q18_eq, n1, n2, n3, n4, n5, n6, tb10_e, tb19_e, Int.natCast_nonneg, Nat.le_refl, Int.le_refl, List.take_succ_cons, List.take_zero, decide_true, decide_false, Bool.and_false, Bool.false_and, zz, zzN, zzF, fltEv, isArithF, ↓reduceIte, Nat.reduceEqDiff, Nat.reduceBEq, Int.reduceLT, Int.reduceLE, Int.reduceToNat, Int.reduceEq, Int.reduceAdd, Int.reduceSub, Int.reduceMul, Int.reduceNeg, Nat.reduceMul, Nat.reduceSub, Nat.reduceLeDiff, Nat.reduceLT, Int.reduceGT, Int.reduceBEq, Int.reduceBNe, reduceCtorEq, Nat.reduceAdd, Ins.map, Fr.ev, argFr, argE, binEv, intEv, shEv, strEv, unEv, Fr.mark, evRes, tup, lenD, lookupD, loadD, partD, storeD, cellsD, cellOk, setAt, objNe, objSame, eqEv, readEv, buildD, buildRows, rowsOf, elemsOf]
          · obtain ⟨h1, h2, h3⟩ := hT rfl
            by_cases c : k < i
            · have g3 : ((k : Int) < (i : Int)) = True := eq_true (by omega)
              have wk : IntKind.i64.wrap ((k : Int) + 1) = ((k + 1 : Nat) : Int) := wrap_succ (by omega)
              have kA : k < A.length := by omega
              have kB : k < B.length := by omega
              obtain ⟨x, hx⟩ : ∃ x, A[k]? = some x := ⟨A[k], List.getElem?_eq_getElem kA⟩
              obtain ⟨y, hy⟩ : ∃ y, B[k]? = some y := ⟨B[k], List.getElem?_eq_getElem kB⟩
              have ex : (encS A)[k]? = some [.str x] := by rw [encS_get, hx]; rfl
              have ey : (encS B)[k]? = some [.str y] := by rw [encS_get, hy]; rfl
              simp (config := {maxSteps := 1000000}) only [g3, wk, lA, lB, ex, ey, n1, n2, n3, n4, n5, n6, tb10_e, tb19_e, Int.natCast_nonneg, Nat.le_refl, Int.le_refl, List.take_succ_cons, List.take_zero, decide_true, decide_false, Bool.and_false, Bool.false_and, zz, zzN, zzF, fltEv, isArithF, ↓reduceIte, Nat.reduceEqDiff, Nat.reduceBEq, Int.reduceLT, Int.reduceLE, Int.reduceToNat, Int.reduceEq, Int.reduceAdd, Int.reduceSub, Int.reduceMul, Int.reduceNeg, Nat.reduceMul, Nat.reduceSub, Nat.reduceLeDiff, Nat.reduceLT, Int.reduceGT, Int.reduceBEq, Int.reduceBNe, reduceCtorEq, Nat.reduceAdd, Ins.map, Fr.ev, argFr, argE, binEv, intEv, shEv, strEv, unEv, Fr.mark, evRes, tup, lenD, lookupD, loadD, partD, storeD, cellsD, cellOk, setAt, objNe, objSame, eqEv, readEv, buildD, buildRows, rowsOf, elemsOf]
              intro _
              refine ⟨by omega, hQ (k + 1, x == y) _ _ ⟨by simp only; omega, fun e => ⟨h1, h2, ?_⟩, fun e he => ?_⟩ (by simp only [Int.natCast_nonneg, Nat.le_refl, Int.le_refl, List.take_succ_cons, List.take_zero, decide_true, decide_false, Bool.and_false, Bool.false_and, zz, zzN, zzF, fltEv, isArithF, ↓reduceIte, Nat.reduceEqDiff, Nat.reduceBEq, Int.reduceLT, Int.reduceLE, Int.reduceToNat, Int.reduceEq, Int.reduceAdd, Int.reduceSub, Int.reduceMul, Int.reduceNeg, Nat.reduceMul, Nat.reduceSub, Nat.reduceLeDiff, Nat.reduceLT, Int.reduceGT, Int.reduceBEq, Int.reduceBNe, reduceCtorEq, Nat.reduceAdd, Ins.map, Fr.ev, argFr, argE, binEv, intEv, shEv, strEv, unEv, Fr.mark, evRes, tup, lenD, lookupD, loadD, partD, storeD, cellsD, cellOk, setAt, objNe, objSame, eqEv, readEv, buildD, buildRows, rowsOf, elemsOf]) (AHeap.sub_refl _) (by simp only; omega)⟩
              · simp only at e ⊢
                rw [List.take_add_one, List.take_add_one, hx, hy, h3, eq_of_beq e]
              · simp only at e
                rw [he.2, hy] at hx
                cases hx
                simp at e
            · have g3 : ((k : Int) < (i : Int)) = False := eq_false (by omega)
              have hAB : A = B := by
                rw [List.take_of_length_le (by omega), List.take_of_length_le (by omega)] at h3
                exact h3
              have hST := eqs h1 hAB
              subst hST
              have eS : (S == S) = true := beq_self_eq_true _
              simp (config := {maxSteps := 1000000}) only [g3, lA, lB, le1, le2, q3, q4, q5, q6, q8_eq, eS, n1, n2, n3, n4, n5, n6, tb10_e, tb19_e, Int.natCast_nonneg, Nat.le_refl, Int.le_refl, List.take_succ_cons, List.take_zero, decide_true, decide_false, Bool.and_false, Bool.false_and, zz, zzN, zzF, fltEv, isArithF, ↓reduceIte, Nat.reduceEqDiff, Nat.reduceBEq, Int.reduceLT, Int.reduceLE, Int.reduceToNat, Int.reduceEq, Int.reduceAdd, Int.reduceSub, Int.reduceMul, Int.reduceNeg, Nat.reduceMul, Nat.reduceSub, Nat.reduceLeDiff, Nat.reduceLT, Int.reduceGT, Int.reduceBEq, Int.reduceBNe, reduceCtorEq, Nat.reduceAdd, Ins.map, Fr.ev, argFr, argE, binEv, intEv, shEv, strEv, unEv, Fr.mark, evRes, tup, lenD, lookupD, loadD, partD, storeD, cellsD, cellOk, setAt, objNe, objSame, eqEv, readEv, buildD, buildRows, rowsOf, elemsOf]
        · simp (config := {maxSteps := 1000000}) only [lb, g1, g2, bp, bl, lA, lB, le1, le2, n1, n2, n3, n4, n5, n6, q1, q2, tb10_e, tb19_e, Int.natCast_nonneg, Nat.le_refl, Int.le_refl, List.take_succ_cons, List.take_zero, decide_true, decide_false, Bool.and_false, Bool.false_and, zz, zzN, zzF, fltEv, isArithF, ↓reduceIte, Nat.reduceEqDiff, Nat.reduceBEq, Int.reduceLT, Int.reduceLE, Int.reduceToNat, Int.reduceEq, Int.reduceAdd, Int.reduceSub, Int.reduceMul, Int.reduceNeg, Nat.reduceMul, Nat.reduceSub, Nat.reduceLeDiff, Nat.reduceLT, Int.reduceGT, Int.reduceBEq, Int.reduceBNe, reduceCtorEq, Nat.reduceAdd, Ins.map, Fr.ev, argFr, argE, binEv, intEv, shEv, strEv, unEv, Fr.mark, evRes, tup, lenD, lookupD, loadD, partD, storeD, cellsD, cellOk, setAt, objNe, objSame, eqEv, readEv, buildD, buildRows, rowsOf, elemsOf]
          intro _ _ _
          refine run_loop (X := Nat × Bool) (fun x => [(0, .int .u8 p), (1, .int .u8 q), (7, .row ra (i + 2) 0 i), (8, .row rb (j + 2) 0 j), (11, .str (shaB S)), (12, .str (shaB T)), (13, .bool x.2), (14, .int .i64 x.1)])
            (fun x => (AHeap.emp.set ra (.row 1 (i + 2) (encS A) true)).set rb (.row 1 (j + 2) (encS B) true)) (fun x => i - x.1) (fun x => x.1 ≤ i ∧ (x.2 = true → p = q ∧ i = j ∧ A.take x.1 = B.take x.1) ∧ (x.2 = false → ¬ (p = q ∧ A = B))) (0, false) ?_ ?_ ?_ ?_
          · refine ⟨by omega, by simp, fun _ h => ?_⟩
            obtain ⟨h1, h2⟩ := h
            subst h1 h2
            first | (simp at bp; done) | (have : i = j := by omega
                                          subst this; simp at bl; done)
          · simp only [Int.natCast_nonneg, Nat.le_refl, Int.le_refl, List.take_succ_cons, List.take_zero, decide_true, decide_false, Bool.and_false, Bool.false_and, zz, zzN, zzF, fltEv, isArithF, ↓reduceIte, Nat.reduceEqDiff, Nat.reduceBEq, Int.reduceLT, Int.reduceLE, Int.reduceToNat, Int.reduceEq, Int.reduceAdd, Int.reduceSub, Int.reduceMul, Int.reduceNeg, Nat.reduceMul, Nat.reduceSub, Nat.reduceLeDiff, Nat.reduceLT, Int.reduceGT, Int.reduceBEq, Int.reduceBNe, reduceCtorEq, Nat.reduceAdd, Ins.map, Fr.ev, argFr, argE, binEv, intEv, shEv, strEv, unEv, Fr.mark, evRes, tup, lenD, lookupD, loadD, partD, storeD, cellsD, cellOk, setAt, objNe, objSame, eqEv, readEv, buildD, buildRows, rowsOf, elemsOf]
          · exact AHeap.sub_X (by repeat' first | with_reducible exact AHeap.subX_refl | with_reducible exact AHeap.subX_emp | refine AHeap.subX_l (by simp [n1, n2, n3, n4, n5, n6]) ?_ | refine AHeap.subX_r (by simp [n1, n2, n3, n4, n5, n6]) ?_)
          rintro ⟨k, sm⟩ Q ⟨hk, hT, hF⟩ hQ
          simp only at hk hT hF
          cases sm
          · have fin : S = T → p = q ∧ A = B := inj
            have ne : (S == T) = false := by
              cases e : S == T
              · rfl
              · exact absurd (inj (eq_of_beq e)) (hF rfl)
            by_cases c : k < i
            · have g3 : ((k : Int) < (i : Int)) = True := eq_true (by omega)
              cases es : (shaB S == shaB T)
              · simp (config := {maxSteps := 1000000}) only [g3, lA, lB, le1, le2, q3, q4, q5, q6, q8_eq, ne, es, q18_eq, n1, n2, n3, n4, n5, n6, tb10_e, tb19_e, Int.natCast_nonneg, Nat.le_refl, Int.le_refl, List.take_succ_cons, List.take_zero, decide_true, decide_false, Bool.and_false, Bool.false_and, zz, zzN, zzF, fltEv, isArithF, ↓reduceIte, Nat.reduceEqDiff, Nat.reduceBEq, Int.reduceLT, Int.reduceLE, Int.reduceToNat, Int.reduceEq, Int.reduceAdd, Int.reduceSub, Int.reduceMul, Int.reduceNeg, Nat.reduceMul, Nat.reduceSub, Nat.reduceLeDiff, Nat.reduceLT, Int.reduceGT, Int.reduceBEq, Int.reduceBNe, reduceCtorEq, Nat.reduceAdd, Ins.map, Fr.ev, argFr, argE, binEv, intEv, shEv, strEv, unEv, Fr.mark, evRes, tup, lenD, lookupD, loadD, partD, storeD, cellsD, cellOk, setAt, objNe, objSame, eqEv, readEv, buildD, buildRows, rowsOf, elemsOf]
              · simp (config := {maxSteps := 1000000}) only [g3, lA, lB, le1, le2, q3, q4, q5, q6, q8_eq, ne, es, q18_eq, n1, n2, n3, n4, n5, n6, tb10_e, tb19_e, Int.natCast_nonneg, Nat.le_refl, Int.le_refl, List.take_succ_cons, List.take_zero, decide_true, decide_false, Bool.and_false, Bool.false_and, zz, zzN, zzF, fltEv, isArithF, ↓reduceIte, Nat.reduceEqDiff, Nat.reduceBEq, Int.reduceLT, Int.reduceLE, Int.reduceToNat, Int.reduceEq, Int.reduceAdd, Int.reduceSub, Int.reduceMul, Int.reduceNeg, Nat.reduceMul, Nat.reduceSub, Nat.reduceLeDiff, Nat.reduceLT, Int.reduceGT, Int.reduceBEq, Int.reduceBNe, reduceCtorEq, Nat.reduceAdd, Ins.map, Fr.ev, argFr, argE, binEv, intEv, shEv, strEv, unEv, Fr.mark, evRes, tup, lenD, lookupD, loadD, partD, storeD, cellsD, cellOk, setAt, objNe, objSame, eqEv, readEv, buildD, buildRows, rowsOf, elemsOf]
            · have g3 : ((k : Int) < (i : Int)) = False := eq_false (by omega)
              cases es : (shaB S == shaB T)
              · simp (config := {maxSteps := 1000000}) only [g3, lA, lB, le1, le2, q3, q4, q5, q6, q8_eq, ne, es, q18_eq, n1, n2, n3, n4, n5, n6, tb10_e, tb19_e, Int.natCast_nonneg, Nat.le_refl, Int.le_refl, List.take_succ_cons, List.take_zero, decide_true, decide_false, Bool.and_false, Bool.false_and, zz, zzN, zzF, fltEv, isArithF, ↓reduceIte, Nat.reduceEqDiff, Nat.reduceBEq, Int.reduceLT, Int.reduceLE, Int.reduceToNat, Int.reduceEq, Int.reduceAdd, Int.reduceSub, Int.reduceMul, Int.reduceNeg, Nat.reduceMul, Nat.reduceSub, Nat.reduceLeDiff, Nat.reduceLT, Int.reduceGT, Int.reduceBEq, Int.reduceBNe, reduceCtorEq, Nat.reduceAdd, Ins.map, Fr.ev, argFr, argE, binEv, intEv, shEv, strEv, unEv, Fr.mark, evRes, tup, lenD, lookupD, loadD, partD, storeD, cellsD, cellOk, setAt, objNe, objSame, eqEv, readEv, buildD, buildRows, rowsOf, elemsOf]
              · simp (config := {maxSteps := 1000000}) only [g3, lA, lB, le1, le2, q3, q4, q5, q6, q8_eq, ne, es, q18_eq, n1, n2, n3, n4, n5, n6, tb10_e, tb19_e, Int.natCast_nonneg, Nat.le_refl, Int.le_refl, List.take_succ_cons, List.take_zero, decide_true, decide_false, Bool.and_false, Bool.false_and, zz, zzN, zzF, fltEv, isArithF, ↓reduceIte, Nat.reduceEqDiff, Nat.reduceBEq, Int.reduceLT, Int.reduceLE, Int.reduceToNat, Int.reduceEq, Int.reduceAdd, Int.reduceSub, Int.reduceMul, Int.reduceNeg, Nat.reduceMul, Nat.reduceSub, Nat.reduceLeDiff, Nat.reduceLT, Int.reduceGT, Int.reduceBEq, Int.reduceBNe, reduceCtorEq, Nat.reduceAdd, Ins.map, Fr.ev, argFr, argE, binEv, intEv, shEv, strEv, unEv, Fr.mark, evRes, tup, lenD, lookupD, loadD, partD, storeD, cellsD, cellOk, setAt, objNe, objSame, eqEv, readEv, buildD, buildRows, rowsOf, elemsOf]
          · obtain ⟨h1, h2, h3⟩ := hT rfl
            by_cases c : k < i
            · have g3 : ((k : Int) < (i : Int)) = True := eq_true (by omega)
              have wk : IntKind.i64.wrap ((k : Int) + 1) = ((k + 1 : Nat) : Int) := wrap_succ (by omega)
              have kA : k < A.length := by omega
              have kB : k < B.length := by omega
              obtain ⟨x, hx⟩ : ∃ x, A[k]? = some x := ⟨A[k], List.getElem?_eq_getElem kA⟩
              obtain ⟨y, hy⟩ : ∃ y, B[k]? = some y := ⟨B[k], List.getElem?_eq_getElem kB⟩
              have ex : (encS A)[k]? = some [.str x] := by rw [encS_get, hx]; rfl
              have ey : (encS B)[k]? = some [.str y] := by rw [encS_get, hy]; rfl
              simp (config := {maxSteps := 1000000}) only [g3, wk, lA, lB, ex, ey, n1, n2, n3, n4, n5, n6, tb10_e, tb19_e, Int.natCast_nonneg, Nat.le_refl, Int.le_refl, List.take_succ_cons, List.take_zero, decide_true, decide_false, Bool.and_false, Bool.false_and, zz, zzN, zzF, fltEv, isArithF, ↓reduceIte, Nat.reduceEqDiff, Nat.reduceBEq, Int.reduceLT, Int.reduceLE, Int.reduceToNat, Int.reduceEq, Int.reduceAdd, Int.reduceSub, Int.reduceMul, Int.reduceNeg, Nat.reduceMul, Nat.reduceSub, Nat.reduceLeDiff, Nat.reduceLT, Int.reduceGT, Int.reduceBEq, Int.reduceBNe, reduceCtorEq, Nat.reduceAdd, Ins.map, Fr.ev, argFr, argE, binEv, intEv, shEv, strEv, unEv, Fr.mark, evRes, tup, lenD, lookupD, loadD, partD, storeD, cellsD, cellOk, setAt, objNe, objSame, eqEv, readEv, buildD, buildRows, rowsOf, elemsOf]
              intro _
              refine ⟨by omega, hQ (k + 1, x == y) _ _ ⟨by simp only; omega, fun e => ⟨h1, h2, ?_⟩, fun e he => ?_⟩ (by simp only [Int.natCast_nonneg, Nat.le_refl, Int.le_refl, List.take_succ_cons, List.take_zero, decide_true, decide_false, Bool.and_false, Bool.false_and, zz, zzN, zzF, fltEv, isArithF, ↓reduceIte, Nat.reduceEqDiff, Nat.reduceBEq, Int.reduceLT, Int.reduceLE, Int.reduceToNat, Int.reduceEq, Int.reduceAdd, Int.reduceSub, Int.reduceMul, Int.reduceNeg, Nat.reduceMul, Nat.reduceSub, Nat.reduceLeDiff, Nat.reduceLT, Int.reduceGT, Int.reduceBEq, Int.reduceBNe, reduceCtorEq, Nat.reduceAdd, Ins.map, Fr.ev, argFr, argE, binEv, intEv, shEv, strEv, unEv, Fr.mark, evRes, tup, lenD, lookupD, loadD, partD, storeD, cellsD, cellOk, setAt, objNe, objSame, eqEv, readEv, buildD, buildRows, rowsOf, elemsOf]) (AHeap.sub_refl _) (by simp only; omega)⟩
              · simp only at e ⊢
                rw [List.take_add_one, List.take_add_one, hx, hy, h3, eq_of_beq e]
              · simp only at e
                rw [he.2, hy] at hx
                cases hx
                simp at e
            · have g3 : ((k : Int) < (i : Int)) = False := eq_false (by omega)
              have hAB : A = B := by
                rw [List.take_of_length_le (by omega), List.take_of_length_le (by omega)] at h3
                exact h3
              have hST := eqs h1 hAB
              subst hST
              have eS : (S == S) = true := beq_self_eq_true _
              simp (config := {maxSteps := 1000000}) only [g3, lA, lB, le1, le2, q3, q4, q5, q6, q8_eq, eS, n1, n2, n3, n4, n5, n6, tb10_e, tb19_e, Int.natCast_nonneg, Nat.le_refl, Int.le_refl, List.take_succ_cons, List.take_zero, decide_true, decide_false, Bool.and_false, Bool.false_and, zz, zzN, zzF, fltEv, isArithF, ↓reduceIte, Nat.reduceEqDiff, Nat.reduceBEq, Int.reduceLT, Int.reduceLE, Int.reduceToNat, Int.reduceEq, Int.reduceAdd, Int.reduceSub, Int.reduceMul, Int.reduceNeg, Nat.reduceMul, Nat.reduceSub, Nat.reduceLeDiff, Nat.reduceLT, Int.reduceGT, Int.reduceBEq, Int.reduceBNe, reduceCtorEq, Nat.reduceAdd, Ins.map, Fr.ev, argFr, argE, binEv, intEv, shEv, strEv, unEv, Fr.mark, evRes, tup, lenD, lookupD, loadD, partD, storeD, cellsD, cellOk, setAt, objNe, objSame, eqEv, readEv, buildD, buildRows, rowsOf, elemsOf]
        · simp (config := {maxSteps := 1000000}) only [lb, g1, g2, bp, bl, lA, lB, le1, le2, n1, n2, n3, n4, n5, n6, q1, q2, tb10_e, tb19_e, Int.natCast_nonneg, Nat.le_refl, Int.le_refl, List.take_succ_cons, List.take_zero, decide_true, decide_false, Bool.and_false, Bool.false_and, zz, zzN, zzF, fltEv, isArithF, ↓reduceIte, Nat.reduceEqDiff, Nat.reduceBEq, Int.reduceLT, Int.reduceLE, Int.reduceToNat, Int.reduceEq, Int.reduceAdd, Int.reduceSub, Int.reduceMul, Int.reduceNeg, Nat.reduceMul, Nat.reduceSub, Nat.reduceLeDiff, Nat.reduceLT, Int.reduceGT, Int.reduceBEq, Int.reduceBNe, reduceCtorEq, Nat.reduceAdd, Ins.map, Fr.ev, argFr, argE, binEv, intEv, shEv, strEv, unEv, Fr.mark, evRes, tup, lenD, lookupD, loadD, partD, storeD, cellsD, cellOk, setAt, objNe, objSame, eqEv, readEv, buildD, buildRows, rowsOf, elemsOf]
          intro _ _ _
          refine run_loop (X := Nat × Bool) (fun x => [(0, .int .u8 p), (1, .int .u8 q), (7, .row ra (i + 2) 0 i), (8, .row rb (j + 2) 0 j), (11, .str (shaB S)), (12, .str (shaB T)), (13, .bool x.2), (14, .int .i64 x.1)])
            (fun x => (AHeap.emp.set ra (.row 1 (i + 2) (encS A) true)).set rb (.row 1 (j + 2) (encS B) true)) (fun x => i - x.1) (fun x => x.1 ≤ i ∧ (x.2 = true → p = q ∧ i = j ∧ A.take x.1 = B.take x.1) ∧ (x.2 = false → ¬ (p = q ∧ A = B))) (0, true) ?_ ?_ ?_ ?_
          · refine ⟨by omega, fun _ => ⟨by simpa using bp, by have := eq_of_beq bl; omega, rfl⟩, by simp⟩
          · simp only [Int.natCast_nonneg, Nat.le_refl, Int.le_refl, List.take_succ_cons, List.take_zero, decide_true, decide_false, Bool.and_false, Bool.false_and, zz, zzN, zzF, fltEv, isArithF, ↓reduceIte, Nat.reduceEqDiff, Nat.reduceBEq, Int.reduceLT, Int.reduceLE, Int.reduceToNat, Int.reduceEq, Int.reduceAdd, Int.reduceSub, Int.reduceMul, Int.reduceNeg, Nat.reduceMul, Nat.reduceSub, Nat.reduceLeDiff, Nat.reduceLT, Int.reduceGT, Int.reduceBEq, Int.reduceBNe, reduceCtorEq, Nat.reduceAdd, Ins.map, Fr.ev, argFr, argE, binEv, intEv, shEv, strEv, unEv, Fr.mark, evRes, tup, lenD, lookupD, loadD, partD, storeD, cellsD, cellOk, setAt, objNe, objSame, eqEv, readEv, buildD, buildRows, rowsOf, elemsOf]
          · exact AHeap.sub_X (by repeat' first | with_reducible exact AHeap.subX_refl | with_reducible exact AHeap.subX_emp | refine AHeap.subX_l (by simp [n1, n2, n3, n4, n5, n6]) ?_ | refine AHeap.subX_r (by simp [n1, n2, n3, n4, n5, n6]) ?_)
          rintro ⟨k, sm⟩ Q ⟨hk, hT, hF⟩ hQ
          simp only at hk hT hF
          cases sm
          · have fin : S = T → p = q ∧ A = B := inj
            have ne : (S == T) = false := by
              cases e : S == T
              · rfl
              · exact absurd (inj (eq_of_beq e)) (hF rfl)
            by_cases c : k < i
            · have g3 : ((k : Int) < (i : Int)) = True := eq_true (by omega)
              cases es : (shaB S == shaB T)
              · simp (config := {maxSteps := 1000000}) only [g3, lA, lB, le1, le2, q3, q4, q5, q6, q8_eq, ne, es, q18_eq, n1, n2, n3, n4, n5, n6, tb10_e, tb19_e, Int.natCast_nonneg, Nat.le_refl, Int.le_refl, List.take_succ_cons, List.take_zero, decide_true, decide_false, Bool.and_false, Bool.false_and, zz, zzN, zzF, fltEv, isArithF, ↓reduceIte, Nat.reduceEqDiff, Nat.reduceBEq, Int.reduceLT, Int.reduceLE, Int.reduceToNat, Int.reduceEq, Int.reduceAdd, Int.reduceSub, Int.reduceMul, Int.reduceNeg, Nat.reduceMul, Nat.reduceSub, Nat.reduceLeDiff, Nat.reduceLT, Int.reduceGT, Int.reduceBEq, Int.reduceBNe, reduceCtorEq, Nat.reduceAdd, Ins.map, Fr.ev, argFr, argE, binEv, intEv, shEv, strEv, unEv, Fr.mark, evRes, tup, lenD, lookupD, loadD, partD, storeD, cellsD, cellOk, setAt, objNe, objSame, eqEv, readEv, buildD, buildRows, rowsOf, elemsOf]
              · simp (config := {maxSteps := 1000000}) only [g3, lA, lB, le1, le2, q3, q4, q5, q6, q8_eq, ne, es, q18_eq, n1, n2, n3, n4, n5, n6, tb10_e, tb19_e, Int.natCast_nonneg, Nat.le_refl, Int.le_refl, List.take_succ_cons, List.take_zero, decide_true, decide_false, Bool.and_false, Bool.false_and, zz, zzN, zzF, fltEv, isArithF, ↓reduceIte, Nat.reduceEqDiff, Nat.reduceBEq, Int.reduceLT, Int.reduceLE, Int.reduceToNat, Int.reduceEq, Int.reduceAdd, Int.reduceSub, Int.reduceMul, Int.reduceNeg, Nat.reduceMul, Nat.reduceSub, Nat.reduceLeDiff, Nat.reduceLT, Int.reduceGT, Int.reduceBEq, Int.reduceBNe, reduceCtorEq, Nat.reduceAdd, Ins.map, Fr.ev, argFr, argE, binEv, intEv, shEv, strEv, unEv, Fr.mark, evRes, tup, lenD, lookupD, loadD, partD, storeD, cellsD, cellOk, setAt, objNe, objSame, eqEv, readEv, buildD, buildRows, rowsOf, elemsOf]
            · have g3 : ((k : Int) < (i : Int)) = False := eq_false (by omega)
              cases es : (shaB S == shaB T)
              · simp (config := {maxSteps := 1000000}) only [g3, lA, lB, le1, le2, q3, q4, q5, q6, q8_eq, ne, es, q18_eq, n1, n2, n3, n4, n5, n6, tb10_e, tb19_e, Int.natCast_nonneg, Nat.le_refl, Int.le_refl, List.take_succ_cons, List.take_zero, decide_true, decide_false, Bool.and_false, Bool.false_and, zz, zzN, zzF, fltEv, isArithF, ↓reduceIte, Nat.reduceEqDiff, Nat.reduceBEq, Int.reduceLT, Int.reduceLE, Int.reduceToNat, Int.reduceEq, Int.reduceAdd, Int.reduceSub, Int.reduceMul, Int.reduceNeg, Nat.reduceMul, Nat.reduceSub, Nat.reduceLeDiff, Nat.reduceLT, Int.reduceGT, Int.reduceBEq, Int.reduceBNe, reduceCtorEq, Nat.reduceAdd, Ins.map, Fr.ev, argFr, argE, binEv, intEv, shEv, strEv, unEv, Fr.mark, evRes, tup, lenD, lookupD, loadD, partD, storeD, cellsD, cellOk, setAt, objNe, objSame, eqEv, readEv, buildD, buildRows, rowsOf, elemsOf]
              · simp (config := {maxSteps := 1000000}) only [g3, lA, lB, le1, le2, q3, q4, q5, q6, q8_eq, ne, es, q18_eq, n1, n2, n3, n4, n5, n6, tb10_e, tb19_e, Int.natCast_nonneg, Nat.le_refl, Int.le_refl, List.take_succ_cons, List.take_zero, decide_true, decide_false, Bool.and_false, Bool.false_and, zz, zzN, zzF, fltEv, isArithF, ↓reduceIte, Nat.reduceEqDiff, Nat.reduceBEq, Int.reduceLT, Int.reduceLE, Int.reduceToNat, Int.reduceEq, Int.reduceAdd, Int.reduceSub, Int.reduceMul, Int.reduceNeg, Nat.reduceMul, Nat.reduceSub, Nat.reduceLeDiff, Nat.reduceLT, Int.reduceGT, Int.reduceBEq, Int.reduceBNe, reduceCtorEq, Nat.reduceAdd, Ins.map, Fr.ev, argFr, argE, binEv, intEv, shEv, strEv, unEv, Fr.mark, evRes, tup, lenD, lookupD, loadD, partD, storeD, cellsD, cellOk, setAt, objNe, objSame, eqEv, readEv, buildD, buildRows, rowsOf, elemsOf]
          · obtain ⟨h1, h2, h3⟩ := hT rfl
            by_cases c : k < i
            · have g3 : ((k : Int) < (i : Int)) = True := eq_true (by omega)
              have wk : IntKind.i64.wrap ((k : Int) + 1) = ((k + 1 : Nat) : Int) := wrap_succ (by omega)
              have kA : k < A.length := by omega
              have kB : k < B.length := by omega
              obtain ⟨x, hx⟩ : ∃ x, A[k]? = some x := ⟨A[k], List.getElem?_eq_getElem kA⟩
              obtain ⟨y, hy⟩ : ∃ y, B[k]? = some y := ⟨B[k], List.getElem?_eq_getElem kB⟩
              have ex : (encS A)[k]? = some [.str x] := by rw [encS_get, hx]; rfl
              have ey : (encS B)[k]? = some [.str y] := by rw [encS_get, hy]; rfl
              simp (config := {maxSteps := 1000000}) only [g3, wk, lA, lB, ex, ey, n1, n2, n3, n4, n5, n6, tb10_e, tb19_e, Int.natCast_nonneg, Nat.le_refl, Int.le_refl, List.take_succ_cons, List.take_zero, decide_true, decide_false, Bool.and_false, Bool.false_and, zz, zzN, zzF, fltEv, isArithF, ↓reduceIte, Nat.reduceEqDiff, Nat.reduceBEq, Int.reduceLT, Int.reduceLE, Int.reduceToNat, Int.reduceEq, Int.reduceAdd, Int.reduceSub, Int.reduceMul, Int.reduceNeg, Nat.reduceMul, Nat.reduceSub, Nat.reduceLeDiff, Nat.reduceLT, Int.reduceGT, Int.reduceBEq, Int.reduceBNe, reduceCtorEq, Nat.reduceAdd, Ins.map, Fr.ev, argFr, argE, binEv, intEv, shEv, strEv, unEv, Fr.mark, evRes, tup, lenD, lookupD, loadD, partD, storeD, cellsD, cellOk, setAt, objNe, objSame, eqEv, readEv, buildD, buildRows, rowsOf, elemsOf]
              intro _
              refine ⟨by omega, hQ (k + 1, x == y) _ _ ⟨by simp only; omega, fun e => ⟨h1, h2, ?_⟩, fun e he => ?_⟩ (by simp only [Int.natCast_nonneg, Nat.le_refl, Int.le_refl, List.take_succ_cons, List.take_zero, decide_true, decide_false, Bool.and_false, Bool.false_and, zz, zzN, zzF, fltEv, isArithF, ↓reduceIte, Nat.reduceEqDiff, Nat.reduceBEq, Int.reduceLT, Int.reduceLE, Int.reduceToNat, Int.reduceEq, Int.reduceAdd, Int.reduceSub, Int.reduceMul, Int.reduceNeg, Nat.reduceMul, Nat.reduceSub, Nat.reduceLeDiff, Nat.reduceLT, Int.reduceGT, Int.reduceBEq, Int.reduceBNe, reduceCtorEq, Nat.reduceAdd, Ins.map, Fr.ev, argFr, argE, binEv, intEv, shEv, strEv, unEv, Fr.mark, evRes, tup, lenD, lookupD, loadD, partD, storeD, cellsD, cellOk, setAt, objNe, objSame, eqEv, readEv, buildD, buildRows, rowsOf, elemsOf]) (AHeap.sub_refl _) (by simp only; omega)⟩
              · simp only at e ⊢
                rw [List.take_add_one, List.take_add_one, hx, hy, h3, eq_of_beq e]
              · simp only at e
                rw [he.2, hy] at hx
                cases hx
                simp at e
            · have g3 : ((k : Int) < (i : Int)) = False := eq_false (by omega)
              have hAB : A = B := by
                rw [List.take_of_length_le (by omega), List.take_of_length_le (by omega)] at h3
                exact h3
              have hST := eqs h1 hAB
              subst hST
              have eS : (S == S) = true := beq_self_eq_true _
              simp (config := {maxSteps := 1000000}) only [g3, lA, lB, le1, le2, q3, q4, q5, q6, q8_eq, eS, n1, n2, n3, n4, n5, n6, tb10_e, tb19_e, Int.natCast_nonneg, Nat.le_refl, Int.le_refl, List.take_succ_cons, List.take_zero, decide_true, decide_false, Bool.and_false, Bool.false_and, zz, zzN, zzF, fltEv, isArithF, ↓reduceIte, Nat.reduceEqDiff, Nat.reduceBEq, Int.reduceLT, Int.reduceLE, Int.reduceToNat, Int.reduceEq, Int.reduceAdd, Int.reduceSub, Int.reduceMul, Int.reduceNeg, Nat.reduceMul, Nat.reduceSub, Nat.reduceLeDiff, Nat.reduceLT, Int.reduceGT, Int.reduceBEq, Int.reduceBNe, reduceCtorEq, Nat.reduceAdd, Ins.map, Fr.ev, argFr, argE, binEv, intEv, shEv, strEv, unEv, Fr.mark, evRes, tup, lenD, lookupD, loadD, partD, storeD, cellsD, cellOk, setAt, objNe, objSame, eqEv, readEv, buildD, buildRows, rowsOf, elemsOf]
        · simp (config := {maxSteps := 1000000}) only [lb, g1, bp, lA, lB, le1, le2, n1, n2, n3, n4, n5, n6, q1, q2, tb10_e, tb19_e, Int.natCast_nonneg, Nat.le_refl, Int.le_refl, List.take_succ_cons, List.take_zero, decide_true, decide_false, Bool.and_false, Bool.false_and, zz, zzN, zzF, fltEv, isArithF, ↓reduceIte, Nat.reduceEqDiff, Nat.reduceBEq, Int.reduceLT, Int.reduceLE, Int.reduceToNat, Int.reduceEq, Int.reduceAdd, Int.reduceSub, Int.reduceMul, Int.reduceNeg, Nat.reduceMul, Nat.reduceSub, Nat.reduceLeDiff, Nat.reduceLT, Int.reduceGT, Int.reduceBEq, Int.reduceBNe, reduceCtorEq, Nat.reduceAdd, Ins.map, Fr.ev, argFr, argE, binEv, intEv, shEv, strEv, unEv, Fr.mark, evRes, tup, lenD, lookupD, loadD, partD, storeD, cellsD, cellOk, setAt, objNe, objSame, eqEv, readEv, buildD, buildRows, rowsOf, elemsOf]
          intro _
          refine run_loop (X := Nat × Bool) (fun x => [(0, .int .u8 p), (1, .int .u8 q), (7, .row ra (i + 2) 0 i), (8, .row rb (j + 2) 0 j), (11, .str (shaB S)), (12, .str (shaB T)), (13, .bool x.2), (14, .int .i64 x.1)])
            (fun x => (AHeap.emp.set ra (.row 1 (i + 2) (encS A) true)).set rb (.row 1 (j + 2) (encS B) true)) (fun x => i - x.1) (fun x => x.1 ≤ i ∧ (x.2 = true → p = q ∧ i = j ∧ A.take x.1 = B.take x.1) ∧ (x.2 = false → ¬ (p = q ∧ A = B))) (0, false) ?_ ?_ ?_ ?_
          · refine ⟨by omega, by simp, fun _ h => ?_⟩
            obtain ⟨h1, h2⟩ := h
            subst h1 h2
            first | (simp at bp; done) | (have : i = j := by omega
                                          subst this; simp at bl; done)
          · simp only [Int.natCast_nonneg, Nat.le_refl, Int.le_refl, List.take_succ_cons, List.take_zero, decide_true, decide_false, Bool.and_false, Bool.false_and, zz, zzN, zzF, fltEv, isArithF, ↓reduceIte, Nat.reduceEqDiff, Nat.reduceBEq, Int.reduceLT, Int.reduceLE, Int.reduceToNat, Int.reduceEq, Int.reduceAdd, Int.reduceSub, Int.reduceMul, Int.reduceNeg, Nat.reduceMul, Nat.reduceSub, Nat.reduceLeDiff, Nat.reduceLT, Int.reduceGT, Int.reduceBEq, Int.reduceBNe, reduceCtorEq, Nat.reduceAdd, Ins.map, Fr.ev, argFr, argE, binEv, intEv, shEv, strEv, unEv, Fr.mark, evRes, tup, lenD, lookupD, loadD, partD, storeD, cellsD, cellOk, setAt, objNe, objSame, eqEv, readEv, buildD, buildRows, rowsOf, elemsOf]
          · exact AHeap.sub_X (by repeat' first | with_reducible exact AHeap.subX_refl | with_reducible exact AHeap.subX_emp | refine AHeap.subX_l (by simp [n1, n2, n3, n4, n5, n6]) ?_ | refine AHeap.subX_r (by simp [n1, n2, n3, n4, n5, n6]) ?_)
          rintro ⟨k, sm⟩ Q ⟨hk, hT, hF⟩ hQ
          simp only at hk hT hF
          cases sm
          · have fin : S = T → p = q ∧ A = B := inj
            have ne : (S == T) = false := by
              cases e : S == T
              · rfl
              · exact absurd (inj (eq_of_beq e)) (hF rfl)
            by_cases c : k < i
            · have g3 : ((k : Int) < (i : Int)) = True := eq_true (by omega)
              cases es : (shaB S == shaB T)
              · simp (config := {maxSteps := 1000000}) only [g3, lA, lB, le1, le2, q3, q4, q5, q6, q8_eq, ne, es, q18_eq, n1, n2, n3, n4, n5, n6, tb10_e, tb19_e, Int.natCast_nonneg, Nat.le_refl, Int.le_refl, List.take_succ_cons, List.take_zero, decide_true, decide_false, Bool.and_false, Bool.false_and, zz, zzN, zzF, fltEv, isArithF, ↓reduceIte, Nat.reduceEqDiff, Nat.reduceBEq, Int.reduceLT, Int.reduceLE, Int.reduceToNat, Int.reduceEq, Int.reduceAdd, Int.reduceSub, Int.reduceMul, Int.reduceNeg, Nat.reduceMul, Nat.reduceSub, Nat.reduceLeDiff, Nat.reduceLT, Int.reduceGT, Int.reduceBEq, Int.reduceBNe, reduceCtorEq, Nat.reduceAdd, Ins.map, Fr.ev, argFr, argE, binEv, intEv, shEv, strEv, unEv, Fr.mark, evRes, tup, lenD, lookupD, loadD, partD, storeD, cellsD, cellOk, setAt, objNe, objSame, eqEv, readEv, buildD, buildRows, rowsOf, elemsOf]
              · simp (config := {maxSteps := 1000000}) only [g3, lA, lB, le1, le2, q3, q4, q5, q6, q8_eq, ne, es, q18_eq, n1, n2, n3, n4, n5, n6, tb10_e, tb19_e, Int.natCast_nonneg, Nat.le_refl, Int.le_refl, List.take_succ_cons, List.take_zero, decide_true, decide_false, Bool.and_false, Bool.false_and, zz, zzN, zzF, fltEv, isArithF, ↓reduceIte, Nat.reduceEqDiff, Nat.reduceBEq, Int.reduceLT, Int.reduceLE, Int.reduceToNat, Int.reduceEq, Int.reduceAdd, Int.reduceSub, Int.reduceMul, Int.reduceNeg, Nat.reduceMul, Nat.reduceSub, Nat.reduceLeDiff, Nat.reduceLT, Int.reduceGT, Int.reduceBEq, Int.reduceBNe, reduceCtorEq, Nat.reduceAdd, Ins.map, Fr.ev, argFr, argE, binEv, intEv, shEv, strEv, unEv, Fr.mark, evRes, tup, lenD, lookupD, loadD, partD, storeD, cellsD, cellOk, setAt, objNe, objSame, eqEv, readEv, buildD, buildRows, rowsOf, elemsOf]
            · have g3 : ((k : Int) < (i : Int)) = False := eq_false (by omega)
              cases es : (shaB S == shaB T)
              · simp (config := {maxSteps := 1000000}) only [g3, lA, lB, le1, le2, q3, q4, q5, q6, q8_eq, ne, es, q18_eq, n1, n2, n3, n4, n5, n6, tb10_e, tb19_e, Int.natCast_nonneg, Nat.le_refl, Int.le_refl, List.take_succ_cons, List.take_zero, decide_true, decide_false, Bool.and_false, Bool.false_and, zz, zzN, zzF, fltEv, isArithF, ↓reduceIte, Nat.reduceEqDiff, Nat.reduceBEq, Int.reduceLT, Int.reduceLE, Int.reduceToNat, Int.reduceEq, Int.reduceAdd, Int.reduceSub, Int.reduceMul, Int.reduceNeg, Nat.reduceMul, Nat.reduceSub, Nat.reduceLeDiff, Nat.reduceLT, Int.reduceGT, Int.reduceBEq, Int.reduceBNe, reduceCtorEq, Nat.reduceAdd, Ins.map, Fr.ev, argFr, argE, binEv, intEv, shEv, strEv, unEv, Fr.mark, evRes, tup, lenD, lookupD, loadD, partD, storeD, cellsD, cellOk, setAt, objNe, objSame, eqEv, readEv, buildD, buildRows, rowsOf, elemsOf]
              · simp (config := {maxSteps := 1000000}) only [g3, lA, lB, le1, le2, q3, q4, q5, q6, q8_eq, ne, es, q18_eq, n1, n2, n3, n4, n5, n6, tb10_e, tb19_e, Int.natCast_nonneg, Nat.le_refl, Int.le_refl, List.take_succ_cons, List.take_zero, decide_true, decide_false, Bool.and_false, Bool.false_and, zz, zzN, zzF, fltEv, isArithF, ↓reduceIte, Nat.reduceEqDiff, Nat.reduceBEq, Int.reduceLT, Int.reduceLE, Int.reduceToNat, Int.reduceEq, Int.reduceAdd, Int.reduceSub, Int.reduceMul, Int.reduceNeg, Nat.reduceMul, Nat.reduceSub, Nat.reduceLeDiff, Nat.reduceLT, Int.reduceGT, Int.reduceBEq, Int.reduceBNe, reduceCtorEq, Nat.reduceAdd, Ins.map, Fr.ev, argFr, argE, binEv, intEv, shEv, strEv, unEv, Fr.mark, evRes, tup, lenD, lookupD, loadD, partD, storeD, cellsD, cellOk, setAt, objNe, objSame, eqEv, readEv, buildD, buildRows, rowsOf, elemsOf]
          · obtain ⟨h1, h2, h3⟩ := hT rfl
            by_cases c : k < i
            · have g3 : ((k : Int) < (i : Int)) = True := eq_true (by omega)
              have wk : IntKind.i64.wrap ((k : Int) + 1) = ((k + 1 : Nat) : Int) := wrap_succ (by omega)
              have kA : k < A.length := by omega
              have kB : k < B.length := by omega
              obtain ⟨x, hx⟩ : ∃ x, A[k]? = some x := ⟨A[k], List.getElem?_eq_getElem kA⟩
              obtain ⟨y, hy⟩ : ∃ y, B[k]? = some y := ⟨B[k], List.getElem?_eq_getElem kB⟩
              have ex : (encS A)[k]? = some [.str x] := by rw [encS_get, hx]; rfl
              have ey : (encS B)[k]? = some [.str y] := by rw [encS_get, hy]; rfl
              simp (config := {maxSteps := 1000000}) only [g3, wk, lA, lB, ex, ey, n1, n2, n3, n4, n5, n6, tb10_e, tb19_e, Int.natCast_nonneg, Nat.le_refl, Int.le_refl, List.take_succ_cons, List.take_zero, decide_true, decide_false, Bool.and_false, Bool.false_and, zz, zzN, zzF, fltEv, isArithF, ↓reduceIte, Nat.reduceEqDiff, Nat.reduceBEq, Int.reduceLT, Int.reduceLE, Int.reduceToNat, Int.reduceEq, Int.reduceAdd, Int.reduceSub, Int.reduceMul, Int.reduceNeg, Nat.reduceMul, Nat.reduceSub, Nat.reduceLeDiff, Nat.reduceLT, Int.reduceGT, Int.reduceBEq, Int.reduceBNe, reduceCtorEq, Nat.reduceAdd, Ins.map, Fr.ev, argFr, argE, binEv, intEv, shEv, strEv, unEv, Fr.mark, evRes, tup, lenD, lookupD, loadD, partD, storeD, cellsD, cellOk, setAt, objNe, objSame, eqEv, readEv, buildD, buildRows, rowsOf, elemsOf]
              intro _
              refine ⟨by omega, hQ (k + 1, x == y) _ _ ⟨by simp only; omega, fun e => ⟨h1, h2, ?_⟩, fun e he => ?_⟩ (by simp only [Int.natCast_nonneg, Nat.le_refl, Int.le_refl, List.take_succ_cons, List.take_zero, decide_true, decide_false, Bool.and_false, Bool.false_and, zz, zzN, zzF, fltEv, isArithF, ↓reduceIte, Nat.reduceEqDiff, Nat.reduceBEq, Int.reduceLT, Int.reduceLE, Int.reduceToNat, Int.reduceEq, Int.reduceAdd, Int.reduceSub, Int.reduceMul, Int.reduceNeg, Nat.reduceMul, Nat.reduceSub, Nat.reduceLeDiff, Nat.reduceLT, Int.reduceGT, Int.reduceBEq, Int.reduceBNe, reduceCtorEq, Nat.reduceAdd, Ins.map, Fr.ev, argFr, argE, binEv, intEv, shEv, strEv, unEv, Fr.mark, evRes, tup, lenD, lookupD, loadD, partD, storeD, cellsD, cellOk, setAt, objNe, objSame, eqEv, readEv, buildD, buildRows, rowsOf, elemsOf]) (AHeap.sub_refl _) (by simp only; omega)⟩
              · simp only at e ⊢
                rw [List.take_add_one, List.take_add_one, hx, hy, h3, eq_of_beq e]
              · simp only at e
                rw [he.2, hy] at hx
                cases hx
                simp at e
            · have g3 : ((k : Int) < (i : Int)) = False := eq_false (by omega)
              have hAB : A = B := by
                rw [List.take_of_length_le (by omega), List.take_of_length_le (by omega)] at h3
                exact h3
              have hST := eqs h1 hAB
              subst hST
              have eS : (S == S) = true := beq_self_eq_true _
              simp (config := {maxSteps := 1000000}) only [g3, lA, lB, le1, le2, q3, q4, q5, q6, q8_eq, eS, n1, n2, n3, n4, n5, n6, tb10_e, tb19_e, Int.natCast_nonneg, Nat.le_refl, Int.le_refl, List.take_succ_cons, List.take_zero, decide_true, decide_false, Bool.and_false, Bool.false_and, zz, zzN, zzF, fltEv, isArithF, ↓reduceIte, Nat.reduceEqDiff, Nat.reduceBEq, Int.reduceLT, Int.reduceLE, Int.reduceToNat, Int.reduceEq, Int.reduceAdd, Int.reduceSub, Int.reduceMul, Int.reduceNeg, Nat.reduceMul, Nat.reduceSub, Nat.reduceLeDiff, Nat.reduceLT, Int.reduceGT, Int.reduceBEq, Int.reduceBNe, reduceCtorEq, Nat.reduceAdd, Ins.map, Fr.ev, argFr, argE, binEv, intEv, shEv, strEv, unEv, Fr.mark, evRes, tup, lenD, lookupD, loadD, partD, storeD, cellsD, cellOk, setAt, objNe, objSame, eqEv, readEv, buildD, buildRows, rowsOf, elemsOf]
        · simp (config := {maxSteps := 1000000}) only [lb, g1, bp, bl, lA, lB, le1, le2, n1, n2, n3, n4, n5, n6, q1, q2, tb10_e, tb19_e, Int.natCast_nonneg, Nat.le_refl, Int.le_refl, List.take_succ_cons, List.take_zero, decide_true, decide_false, Bool.and_false, Bool.false_and, zz, zzN, zzF, fltEv, isArithF, ↓reduceIte, Nat.reduceEqDiff, Nat.reduceBEq, Int.reduceLT, Int.reduceLE, Int.reduceToNat, Int.reduceEq, Int.reduceAdd, Int.reduceSub, Int.reduceMul, Int.reduceNeg, Nat.reduceMul, Nat.reduceSub, Nat.reduceLeDiff, Nat.reduceLT, Int.reduceGT, Int.reduceBEq, Int.reduceBNe, reduceCtorEq, Nat.reduceAdd, Ins.map, Fr.ev, argFr, argE, binEv, intEv, shEv, strEv, unEv, Fr.mark, evRes, tup, lenD, lookupD, loadD, partD, storeD, cellsD, cellOk, setAt, objNe, objSame, eqEv, readEv, buildD, buildRows, rowsOf, elemsOf]
          intro _ _ _
          refine run_loop (X := Nat × Bool) (fun x => [(0, .int .u8 p), (1, .int .u8 q), (7, .row ra (i + 2) 0 i), (8, .row rb (j + 2) 0 j), (11, .str (shaB S)), (12, .str (shaB T)), (13, .bool x.2), (14, .int .i64 x.1)])
            (fun x => (AHeap.emp.set ra (.row 1 (i + 2) (encS A) true)).set rb (.row 1 (j + 2) (encS B) true)) (fun x => i - x.1) (fun x => x.1 ≤ i ∧ (x.2 = true → p = q ∧ i = j ∧ A.take x.1 = B.take x.1) ∧ (x.2 = false → ¬ (p = q ∧ A = B))) (0, false) ?_ ?_ ?_ ?_
          · refine ⟨by omega, by simp, fun _ h => ?_⟩
            obtain ⟨h1, h2⟩ := h
            subst h1 h2
            first | (simp at bp; done) | (have : i = j := by omega
                                          subst this; simp at bl; done)
          · simp only [Int.natCast_nonneg, Nat.le_refl, Int.le_refl, List.take_succ_cons, List.take_zero, decide_true, decide_false, Bool.and_false, Bool.false_and, zz, zzN, zzF, fltEv, isArithF, ↓reduceIte, Nat.reduceEqDiff, Nat.reduceBEq, Int.reduceLT, Int.reduceLE, Int.reduceToNat, Int.reduceEq, Int.reduceAdd, Int.reduceSub, Int.reduceMul, Int.reduceNeg, Nat.reduceMul, Nat.reduceSub, Nat.reduceLeDiff, Nat.reduceLT, Int.reduceGT, Int.reduceBEq, Int.reduceBNe, reduceCtorEq, Nat.reduceAdd, Ins.map, Fr.ev, argFr, argE, binEv, intEv, shEv, strEv, unEv, Fr.mark, evRes, tup, lenD, lookupD, loadD, partD, storeD, cellsD, cellOk, setAt, objNe, objSame, eqEv, readEv, buildD, buildRows, rowsOf, elemsOf]
          · exact AHeap.sub_X (by repeat' first | with_reducible exact AHeap.subX_refl | with_reducible exact AHeap.subX_emp | refine AHeap.subX_l (by simp [n1, n2, n3, n4, n5, n6]) ?_ | refine AHeap.subX_r (by simp [n1, n2, n3, n4, n5, n6]) ?_)
          rintro ⟨k, sm⟩ Q ⟨hk, hT, hF⟩ hQ
          simp only at hk hT hF
          cases sm
          · have fin : S = T → p = q ∧ A = B := inj
            have ne : (S == T) = false := by
              cases e : S == T
              · rfl
              · exact absurd (inj (eq_of_beq e)) (hF rfl)
            by_cases c : k < i
            · have g3 : ((k : Int) < (i : Int)) = True := eq_true (by omega)
              cases es : (shaB S == shaB T)
              · simp (config := {maxSteps := 1000000}) only [g3, lA, lB, le1, le2, q3, q4, q5, q6, q8_eq, ne, es, q18_eq, n1, n2, n3, n4, n5, n6, tb10_e, tb19_e, Int.natCast_nonneg, Nat.le_refl, Int.le_refl, List.take_succ_cons, List.take_zero, decide_true, decide_false, Bool.and_false, Bool.false_and, zz, zzN, zzF, fltEv, isArithF, ↓reduceIte, Nat.reduceEqDiff, Nat.reduceBEq, Int.reduceLT, Int.reduceLE, Int.reduceToNat, Int.reduceEq, Int.reduceAdd, Int.reduceSub, Int.reduceMul, Int.reduceNeg, Nat.reduceMul, Nat.reduceSub, Nat.reduceLeDiff, Nat.reduceLT, Int.reduceGT, Int.reduceBEq, Int.reduceBNe, reduceCtorEq, Nat.reduceAdd, Ins.map, Fr.ev, argFr, argE, binEv, intEv, shEv, strEv, unEv, Fr.mark, evRes, tup, lenD, lookupD, loadD, partD, storeD, cellsD, cellOk, setAt, objNe, objSame, eqEv, readEv, buildD, buildRows, rowsOf, elemsOf]
              · simp (config := {maxSteps := 1000000}) only [g3, lA, lB, le1, le2, q3, q4, q5, q6, q8_eq, ne, es, q18_eq, n1, n2, n3, n4, n5, n6, tb10_e, tb19_e, Int.natCast_nonneg, Nat.le_refl, Int.le_refl, List.take_succ_cons, List.take_zero, decide_true, decide_false, Bool.and_false, Bool.false_and, zz, zzN, zzF, fltEv, isArithF, ↓reduceIte, Nat.reduceEqDiff, Nat.reduceBEq, Int.reduceLT, Int.reduceLE, Int.reduceToNat, Int.reduceEq, Int.reduceAdd, Int.reduceSub, Int.reduceMul, Int.reduceNeg, Nat.reduceMul, Nat.reduceSub, Nat.reduceLeDiff, Nat.reduceLT, Int.reduceGT, Int.reduceBEq, Int.reduceBNe, reduceCtorEq, Nat.reduceAdd, Ins.map, Fr.ev, argFr, argE, binEv, intEv, shEv, strEv, unEv, Fr.mark, evRes, tup, lenD, lookupD, loadD, partD, storeD, cellsD, cellOk, setAt, objNe, objSame, eqEv, readEv, buildD, buildRows, rowsOf, elemsOf]
            · have g3 : ((k : Int) < (i : Int)) = False := eq_false (by omega)
              cases es : (shaB S == shaB T)
              · simp (config := {maxSteps := 1000000}) only [g3, lA, lB, le1, le2, q3, q4, q5, q6, q8_eq, ne, es, q18_eq, n1, n2, n3, n4, n5, n6, tb10_e, tb19_e, Int.natCast_nonneg, Nat.le_refl, Int.le_refl, List.take_succ_cons, List.take_zero, decide_true, decide_false, Bool.and_false, Bool.false_and, zz, zzN, zzF, fltEv, isArithF, ↓reduceIte, Nat.reduceEqDiff, Nat.reduceBEq, Int.reduceLT, Int.reduceLE, Int.reduceToNat, Int.reduceEq, Int.reduceAdd, Int.reduceSub, Int.reduceMul, Int.reduceNeg, Nat.reduceMul, Nat.reduceSub, Nat.reduceLeDiff, Nat.reduceLT, Int.reduceGT, Int.reduceBEq, Int.reduceBNe, reduceCtorEq, Nat.reduceAdd, Ins.map, Fr.ev, argFr, argE, binEv, intEv, shEv, strEv, unEv, Fr.mark, evRes, tup, lenD, lookupD, loadD, partD, storeD, cellsD, cellOk, setAt, objNe, objSame, eqEv, readEv, buildD, buildRows, rowsOf, elemsOf]
              · simp (config := {maxSteps := 1000000}) only [g3, lA, lB, le1, le2, q3, q4, q5, q6, q8_eq, ne, es, q18_eq, n1, n2, n3, n4, n5, n6, tb10_e, tb19_e, Int.natCast_nonneg, Nat.le_refl, Int.le_refl, List.take_succ_cons, List.take_zero, decide_true, decide_false, Bool.and_false, Bool.false_and, zz, zzN, zzF, fltEv, isArithF, ↓reduceIte, Nat.reduceEqDiff, Nat.reduceBEq, Int.reduceLT, Int.reduceLE, Int.reduceToNat, Int.reduceEq, Int.reduceAdd, Int.reduceSub, Int.reduceMul, Int.reduceNeg, Nat.reduceMul, Nat.reduceSub, Nat.reduceLeDiff, Nat.reduceLT, Int.reduceGT, Int.reduceBEq, Int.reduceBNe, reduceCtorEq, Nat.reduceAdd, Ins.map, Fr.ev, argFr, argE, binEv, intEv, shEv, strEv, unEv, Fr.mark, evRes, tup, lenD, lookupD, loadD, partD, storeD, cellsD, cellOk, setAt, objNe, objSame, eqEv, readEv, buildD, buildRows, rowsOf, elemsOf]
          · obtain ⟨h1, h2, h3⟩ := hT rfl
            by_cases c : k < i
            · have g3 : ((k : Int) < (i : Int)) = True := eq_true (by omega)
              have wk : IntKind.i64.wrap ((k : Int) + 1) = ((k + 1 : Nat) : Int) := wrap_succ (by omega)
              have kA : k < A.length := by omega
              have kB : k < B.length := by omega
              obtain ⟨x, hx⟩ : ∃ x, A[k]? = some x := ⟨A[k], List.getElem?_eq_getElem kA⟩
              obtain ⟨y, hy⟩ : ∃ y, B[k]? = some y := ⟨B[k], List.getElem?_eq_getElem kB⟩
              have ex : (encS A)[k]? = some [.str x] := by rw [encS_get, hx]; rfl
              have ey : (encS B)[k]? = some [.str y] := by rw [encS_get, hy]; rfl
              simp (config := {maxSteps := 1000000}) only [g3, wk, lA, lB, ex, ey, n1, n2, n3, n4, n5, n6, tb10_e, tb19_e, Int.natCast_nonneg, Nat.le_refl, Int.le_refl, List.take_succ_cons, List.take_zero, decide_true, decide_false, Bool.and_false, Bool.false_and, zz, zzN, zzF, fltEv, isArithF, ↓reduceIte, Nat.reduceEqDiff, Nat.reduceBEq, Int.reduceLT, Int.reduceLE, Int.reduceToNat, Int.reduceEq, Int.reduceAdd, Int.reduceSub, Int.reduceMul, Int.reduceNeg, Nat.reduceMul, Nat.reduceSub, Nat.reduceLeDiff, Nat.reduceLT, Int.reduceGT, Int.reduceBEq, Int.reduceBNe, reduceCtorEq, Nat.reduceAdd, Ins.map, Fr.ev, argFr, argE, binEv, intEv, shEv, strEv, unEv, Fr.mark, evRes, tup, lenD, lookupD, loadD, partD, storeD, cellsD, cellOk, setAt, objNe, objSame, eqEv, readEv, buildD, buildRows, rowsOf, elemsOf]
              intro _
              refine ⟨by omega, hQ (k + 1, x == y) _ _ ⟨by simp only; omega, fun e => ⟨h1, h2, ?_⟩, fun e he => ?_⟩ (by simp only [Int.natCast_nonneg, Nat.le_refl, Int.le_refl, List.take_succ_cons, List.take_zero, decide_true, decide_false, Bool.and_false, Bool.false_and, zz, zzN, zzF, fltEv, isArithF, ↓reduceIte, Nat.reduceEqDiff, Nat.reduceBEq, Int.reduceLT, Int.reduceLE, Int.reduceToNat, Int.reduceEq, Int.reduceAdd, Int.reduceSub, Int.reduceMul, Int.reduceNeg, Nat.reduceMul, Nat.reduceSub, Nat.reduceLeDiff, Nat.reduceLT, Int.reduceGT, Int.reduceBEq, Int.reduceBNe, reduceCtorEq, Nat.reduceAdd, Ins.map, Fr.ev, argFr, argE, binEv, intEv, shEv, strEv, unEv, Fr.mark, evRes, tup, lenD, lookupD, loadD, partD, storeD, cellsD, cellOk, setAt, objNe, objSame, eqEv, readEv, buildD, buildRows, rowsOf, elemsOf]) (AHeap.sub_refl _) (by simp only; omega)⟩
              · simp only at e ⊢
                rw [List.take_add_one, List.take_add_one, hx, hy, h3, eq_of_beq e]
              · simp only at e
                rw [he.2, hy] at hx
                cases hx
                simp at e
            · have g3 : ((k : Int) < (i : Int)) = False := eq_false (by omega)
              have hAB : A = B := by
                rw [List.take_of_length_le (by omega), List.take_of_length_le (by omega)] at h3
                exact h3
              have hST := eqs h1 hAB
              subst hST
              have eS : (S == S) = true := beq_self_eq_true _
              simp (config := {maxSteps := 1000000}) only [g3, lA, lB, le1, le2, q3, q4, q5, q6, q8_eq, eS, n1, n2, n3, n4, n5, n6, tb10_e, tb19_e, Int.natCast_nonneg, Nat.le_refl, Int.le_refl, List.take_succ_cons, List.take_zero, decide_true, decide_false, Bool.and_false, Bool.false_and, zz, zzN, zzF, fltEv, isArithF, ↓reduceIte, Nat.reduceEqDiff, Nat.reduceBEq, Int.reduceLT, Int.reduceLE, Int.reduceToNat, Int.reduceEq, Int.reduceAdd, Int.reduceSub, Int.reduceMul, Int.reduceNeg, Nat.reduceMul, Nat.reduceSub, Nat.reduceLeDiff, Nat.reduceLT, Int.reduceGT, Int.reduceBEq, Int.reduceBNe, reduceCtorEq, Nat.reduceAdd, Ins.map, Fr.ev, argFr, argE, binEv, intEv, shEv, strEv, unEv, Fr.mark, evRes, tup, lenD, lookupD, loadD, partD, storeD, cellsD, cellOk, setAt, objNe, objSame, eqEv, readEv, buildD, buildRows, rowsOf, elemsOf]
        · simp (config := {maxSteps := 1000000}) only [lb, g1, bp, bl, lA, lB, le1, le2, n1, n2, n3, n4, n5, n6, q1, q2, tb10_e, tb19_e, Int.natCast_nonneg, Nat.le_refl, Int.le_refl, List.take_succ_cons, List.take_zero, decide_true, decide_false, Bool.and_false, Bool.false_and, zz, zzN, zzF, fltEv, isArithF, ↓reduceIte, Nat.reduceEqDiff, Nat.reduceBEq, Int.reduceLT, Int.reduceLE, Int.reduceToNat, Int.reduceEq, Int.reduceAdd, Int.reduceSub, Int.reduceMul, Int.reduceNeg, Nat.reduceMul, Nat.reduceSub, Nat.reduceLeDiff, Nat.reduceLT, Int.reduceGT, Int.reduceBEq, Int.reduceBNe, reduceCtorEq, Nat.reduceAdd, Ins.map, Fr.ev, argFr, argE, binEv, intEv, shEv, strEv, unEv, Fr.mark, evRes, tup, lenD, lookupD, loadD, partD, storeD, cellsD, cellOk, setAt, objNe, objSame, eqEv, readEv, buildD, buildRows, rowsOf, elemsOf]
          intro _ _ _
          refine run_loop (X := Nat × Bool) (fun x => [(0, .int .u8 p), (1, .int .u8 q), (7, .row ra (i + 2) 0 i), (8, .row rb (j + 2) 0 j), (11, .str (shaB S)), (12, .str (shaB T)), (13, .bool x.2), (14, .int .i64 x.1)])
            (fun x => (AHeap.emp.set ra (.row 1 (i + 2) (encS A) true)).set rb (.row 1 (j + 2) (encS B) true)) (fun x => i - x.1) (fun x => x.1 ≤ i ∧ (x.2 = true → p = q ∧ i = j ∧ A.take x.1 = B.take x.1) ∧ (x.2 = false → ¬ (p = q ∧ A = B))) (0, true) ?_ ?_ ?_ ?_
          · refine ⟨by omega, fun _ => ⟨by simpa using bp, by have := eq_of_beq bl; omega, rfl⟩, by simp⟩
          · simp only [Int.natCast_nonneg, Nat.le_refl, Int.le_refl, List.take_succ_cons, List.take_zero, decide_true, decide_false, Bool.and_false, Bool.false_and, zz, zzN, zzF, fltEv, isArithF, ↓reduceIte, Nat.reduceEqDiff, Nat.reduceBEq, Int.reduceLT, Int.reduceLE, Int.reduceToNat, Int.reduceEq, Int.reduceAdd, Int.reduceSub, Int.reduceMul, Int.reduceNeg, Nat.reduceMul, Nat.reduceSub, Nat.reduceLeDiff, Nat.reduceLT, Int.reduceGT, Int.reduceBEq, Int.reduceBNe, reduceCtorEq, Nat.reduceAdd, Ins.map, Fr.ev, argFr, argE, binEv, intEv, shEv, strEv, unEv, Fr.mark, evRes, tup, lenD, lookupD, loadD, partD, storeD, cellsD, cellOk, setAt, objNe, objSame, eqEv, readEv, buildD, buildRows, rowsOf, elemsOf]
          · exact AHeap.sub_X (by repeat' first | with_reducible exact AHeap.subX_refl | with_reducible exact AHeap.subX_emp | refine AHeap.subX_l (by simp [n1, n2, n3, n4, n5, n6]) ?_ | refine AHeap.subX_r (by simp [n1, n2, n3, n4, n5, n6]) ?_)
          rintro ⟨k, sm⟩ Q ⟨hk, hT, hF⟩ hQ
          simp only at hk hT hF
          cases sm
          · have fin : S = T → p = q ∧ A = B := inj
            have ne : (S == T) = false := by
              cases e : S == T
              · rfl
              · exact absurd (inj (eq_of_beq e)) (hF rfl)
            by_cases c : k < i
            · have g3 : ((k : Int) < (i : Int)) = True := eq_true (by omega)
              cases es : (shaB S == shaB T)
              · simp (config := {maxSteps := 1000000}) only [g3, lA, lB, le1, le2, q3, q4, q5, q6, q8_eq, ne, es, q18_eq, n1, n2, n3, n4, n5, n6, tb10_e, tb19_e, Int.natCast_nonneg, Nat.le_refl, Int.le_refl, List.take_succ_cons, List.take_zero, decide_true, decide_false, Bool.and_false, Bool.false_and, zz, zzN, zzF, fltEv, isArithF, ↓reduceIte, Nat.reduceEqDiff, Nat.reduceBEq, Int.reduceLT, Int.reduceLE, Int.reduceToNat, Int.reduceEq, Int.reduceAdd, Int.reduceSub, Int.reduceMul, Int.reduceNeg, Nat.reduceMul, Nat.reduceSub, Nat.reduceLeDiff, Nat.reduceLT, Int.reduceGT, Int.reduceBEq, Int.reduceBNe, reduceCtorEq, Nat.reduceAdd, Ins.map, Fr.ev, argFr, argE, binEv, intEv, shEv, strEv, unEv, Fr.mark, evRes, tup, lenD, lookupD, loadD, partD, storeD, cellsD, cellOk, setAt, objNe, objSame, eqEv, readEv, buildD, buildRows, rowsOf, elemsOf]
              · simp (config := {maxSteps := 1000000}) only [g3, lA, lB, le1, le2, q3, q4, q5, q6, q8_eq, ne, es, q18_eq, n1, n2, n3, n4, n5, n6, tb10_e, tb19_e, Int.natCast_nonneg, Nat.le_refl, Int.le_refl, List.take_succ_cons, List.take_zero, decide_true, decide_false, Bool.and_false, Bool.false_and, zz, zzN, zzF, fltEv, isArithF, ↓reduceIte, Nat.reduceEqDiff, Nat.reduceBEq, Int.reduceLT, Int.reduceLE, Int.reduceToNat, Int.reduceEq, Int.reduceAdd, Int.reduceSub, Int.reduceMul, Int.reduceNeg, Nat.reduceMul, Nat.reduceSub, Nat.reduceLeDiff, Nat.reduceLT, Int.reduceGT, Int.reduceBEq, Int.reduceBNe, reduceCtorEq, Nat.reduceAdd, Ins.map, Fr.ev, argFr, argE, binEv, intEv, shEv, strEv, unEv, Fr.mark, evRes, tup, lenD, lookupD, loadD, partD, storeD, cellsD, cellOk, setAt, objNe, objSame, eqEv, readEv, buildD, buildRows, rowsOf, elemsOf]
            · have g3 : ((k : Int) < (i : Int)) = False := eq_false (by omega)
              cases es : (shaB S == shaB T)
              · simp (config := {maxSteps := 1000000}) only [g3, lA, lB, le1, le2, q3, q4, q5, q6, q8_eq, ne, es, q18_eq, n1, n2, n3, n4, n5, n6, tb10_e, tb19_e, Int.natCast_nonneg, Nat.le_refl, Int.le_refl, List.take_succ_cons, List.take_zero, decide_true, decide_false, Bool.and_false, Bool.false_and, zz, zzN, zzF, fltEv, isArithF, ↓reduceIte, Nat.reduceEqDiff, Nat.reduceBEq, Int.reduceLT, Int.reduceLE, Int.reduceToNat, Int.reduceEq, Int.reduceAdd, Int.reduceSub, Int.reduceMul, Int.reduceNeg, Nat.reduceMul, Nat.reduceSub, Nat.reduceLeDiff, Nat.reduceLT, Int.reduceGT, Int.reduceBEq, Int.reduceBNe, reduceCtorEq, Nat.reduceAdd, Ins.map, Fr.ev, argFr, argE, binEv, intEv, shEv, strEv, unEv, Fr.mark, evRes, tup, lenD, lookupD, loadD, partD, storeD, cellsD, cellOk, setAt, objNe, objSame, eqEv, readEv, buildD, buildRows, rowsOf, elemsOf]
              · simp (config := {maxSteps := 1000000}) only [g3, lA, lB, le1, le2, q3, q4, q5, q6, q8_eq, ne, es, q18_eq, n1, n2, n3, n4, n5, n6, tb10_e, tb19_e, Int.natCast_nonneg, Nat.le_refl, Int.le_refl, List.take_succ_cons, List.take_zero, decide_true, decide_false, Bool.and_false, Bool.false_and, zz, zzN, zzF, fltEv, isArithF, ↓reduceIte, Nat.reduceEqDiff, Nat.reduceBEq, Int.reduceLT, Int.reduceLE, Int.reduceToNat, Int.reduceEq, Int.reduceAdd, Int.reduceSub, Int.reduceMul, Int.reduceNeg, Nat.reduceMul, Nat.reduceSub, Nat.reduceLeDiff, Nat.reduceLT, Int.reduceGT, Int.reduceBEq, Int.reduceBNe, reduceCtorEq, Nat.reduceAdd, Ins.map, Fr.ev, argFr, argE, binEv, intEv, shEv, strEv, unEv, Fr.mark, evRes, tup, lenD, lookupD, loadD, partD, storeD, cellsD, cellOk, setAt, objNe, objSame, eqEv, readEv, buildD, buildRows, rowsOf, elemsOf]
          · obtain ⟨h1, h2, h3⟩ := hT rfl
            by_cases c : k < i
            · have g3 : ((k : Int) < (i : Int)) = True := eq_true (by omega)
              have wk : IntKind.i64.wrap ((k : Int) + 1) = ((k + 1 : Nat) : Int) := wrap_succ (by omega)
              have kA : k < A.length := by omega
              have kB : k < B.length := by omega
              obtain ⟨x, hx⟩ : ∃ x, A[k]? = some x := ⟨A[k], List.getElem?_eq_getElem kA⟩
              obtain ⟨y, hy⟩ : ∃ y, B[k]? = some y := ⟨B[k], List.getElem?_eq_getElem kB⟩
              have ex : (encS A)[k]? = some [.str x] := by rw [encS_get, hx]; rfl
              have ey : (encS B)[k]? = some [.str y] := by rw [encS_get, hy]; rfl
              simp (config := {maxSteps := 1000000}) only [g3, wk, lA, lB, ex, ey, n1, n2, n3, n4, n5, n6, tb10_e, tb19_e, Int.natCast_nonneg, Nat.le_refl, Int.le_refl, List.take_succ_cons, List.take_zero, decide_true, decide_false, Bool.and_false, Bool.false_and, zz, zzN, zzF, fltEv, isArithF, ↓reduceIte, Nat.reduceEqDiff, Nat.reduceBEq, Int.reduceLT, Int.reduceLE, Int.reduceToNat, Int.reduceEq, Int.reduceAdd, Int.reduceSub, Int.reduceMul, Int.reduceNeg, Nat.reduceMul, Nat.reduceSub, Nat.reduceLeDiff, Nat.reduceLT, Int.reduceGT, Int.reduceBEq, Int.reduceBNe, reduceCtorEq, Nat.reduceAdd, Ins.map, Fr.ev, argFr, argE, binEv, intEv, shEv, strEv, unEv, Fr.mark, evRes, tup, lenD, lookupD, loadD, partD, storeD, cellsD, cellOk, setAt, objNe, objSame, eqEv, readEv, buildD, buildRows, rowsOf, elemsOf]
              intro _
              refine ⟨by omega, hQ (k + 1, x == y) _ _ ⟨by simp only; omega, fun e => ⟨h1, h2, ?_⟩, fun e he => ?_⟩ (by simp only [Int.natCast_nonneg, Nat.le_refl, Int.le_refl, List.take_succ_cons, List.take_zero, decide_true, decide_false, Bool.and_false, Bool.false_and, zz, zzN, zzF, fltEv, isArithF, ↓reduceIte, Nat.reduceEqDiff, Nat.reduceBEq, Int.reduceLT, Int.reduceLE, Int.reduceToNat, Int.reduceEq, Int.reduceAdd, Int.reduceSub, Int.reduceMul, Int.reduceNeg, Nat.reduceMul, Nat.reduceSub, Nat.reduceLeDiff, Nat.reduceLT, Int.reduceGT, Int.reduceBEq, Int.reduceBNe, reduceCtorEq, Nat.reduceAdd, Ins.map, Fr.ev, argFr, argE, binEv, intEv, shEv, strEv, unEv, Fr.mark, evRes, tup, lenD, lookupD, loadD, partD, storeD, cellsD, cellOk, setAt, objNe, objSame, eqEv, readEv, buildD, buildRows, rowsOf, elemsOf]) (AHeap.sub_refl _) (by simp only; omega)⟩
              · simp only at e ⊢
                rw [List.take_add_one, List.take_add_one, hx, hy, h3, eq_of_beq e]
              · simp only at e
                rw [he.2, hy] at hx
                cases hx
                simp at e
            · have g3 : ((k : Int) < (i : Int)) = False := eq_false (by omega)
              have hAB : A = B := by
                rw [List.take_of_length_le (by omega), List.take_of_length_le (by omega)] at h3
                exact h3
              have hST := eqs h1 hAB
              subst hST
              have eS : (S == S) = true := beq_self_eq_true _
              simp (config := {maxSteps := 1000000}) only [g3, lA, lB, le1, le2, q3, q4, q5, q6, q8_eq, eS, n1, n2, n3, n4, n5, n6, tb10_e, tb19_e, Int.natCast_nonneg, Nat.le_refl, Int.le_refl, List.take_succ_cons, List.take_zero, decide_true, decide_false, Bool.and_false, Bool.false_and, zz, zzN, zzF, fltEv, isArithF, ↓reduceIte, Nat.reduceEqDiff, Nat.reduceBEq, Int.reduceLT, Int.reduceLE, Int.reduceToNat, Int.reduceEq, Int.reduceAdd, Int.reduceSub, Int.reduceMul, Int.reduceNeg, Nat.reduceMul, Nat.reduceSub, Nat.reduceLeDiff, Nat.reduceLT, Int.reduceGT, Int.reduceBEq, Int.reduceBNe, reduceCtorEq, Nat.reduceAdd, Ins.map, Fr.ev, argFr, argE, binEv, intEv, shEv, strEv, unEv, Fr.mark, evRes, tup, lenD, lookupD, loadD, partD, storeD, cellsD, cellOk, setAt, objNe, objSame, eqEv, readEv, buildD, buildRows, rowsOf, elemsOf]
    · simp (config := {maxSteps := 1000000}) only [la, g1, n1, n2, n3, n4, n5, n6, tb10_e, tb19_e, Int.natCast_nonneg, Nat.le_refl, Int.le_refl, List.take_succ_cons, List.take_zero, decide_true, decide_false, Bool.and_false, Bool.false_and, zz, zzN, zzF, fltEv, isArithF, ↓reduceIte, Nat.reduceEqDiff, Nat.reduceBEq, Int.reduceLT, Int.reduceLE, Int.reduceToNat, Int.reduceEq, Int.reduceAdd, Int.reduceSub, Int.reduceMul, Int.reduceNeg, Nat.reduceMul, Nat.reduceSub, Nat.reduceLeDiff, Nat.reduceLT, Int.reduceGT, Int.reduceBEq, Int.reduceBNe, reduceCtorEq, Nat.reduceAdd, Ins.map, Fr.ev, argFr, argE, binEv, intEv, shEv, strEv, unEv, Fr.mark, evRes, tup, lenD, lookupD, loadD, partD, storeD, cellsD, cellOk, setAt, objNe, objSame, eqEv, readEv, buildD, buildRows, rowsOf, elemsOf]
      intro _
      refine run_loop (X := Nat) (fun j => [(0, .int .u8 p), (1, .int .u8 q), (5, .ptr e 1 0), (7, .row ra (i + 2) 0 i), (8, .row rb (j + 2) 0 j), (10, .int .i64 j)])
        (fun j => ((AHeap.emp.set e (.cells [.sl (encS a), .sl (encS b)])).set ra (.row 1 (i + 2) (encS A) false)).set rb (.row 1 (j + 2) (encS (preS b j)) false)) (fun j => 8 - j) (fun j => j ≤ 8 ∧ j ≤ b.length) 0 (by simp) ?_ ?_ ?_
      · simp only [Int.natCast_nonneg, Nat.le_refl, Int.le_refl, List.take_succ_cons, List.take_zero, decide_true, decide_false, Bool.and_false, Bool.false_and, zz, zzN, zzF, fltEv, isArithF, ↓reduceIte, Nat.reduceEqDiff, Nat.reduceBEq, Int.reduceLT, Int.reduceLE, Int.reduceToNat, Int.reduceEq, Int.reduceAdd, Int.reduceSub, Int.reduceMul, Int.reduceNeg, Nat.reduceMul, Nat.reduceSub, Nat.reduceLeDiff, Nat.reduceLT, Int.reduceGT, Int.reduceBEq, Int.reduceBNe, reduceCtorEq, Nat.reduceAdd, Ins.map, Fr.ev, argFr, argE, binEv, intEv, shEv, strEv, unEv, Fr.mark, evRes, tup, lenD, lookupD, loadD, partD, storeD, cellsD, cellOk, setAt, objNe, objSame, eqEv, readEv, buildD, buildRows, rowsOf, elemsOf]
      · exact AHeap.sub_refl _
      rintro j Q ⟨hj, hjb⟩ hQ
      have lB : (encS (preS b j)).length = j := by rw [len_encS, len_preS hjb]
      have go : ((j : Int) < (b.length : Int)) = True ∧ ((j : Int) < 8) = True ∨ (((j : Int) < (b.length : Int)) = True ∧ ((j : Int) < 8) = False ∨ ((j : Int) < (b.length : Int)) = False) := by
        by_cases c1 : j < b.length <;> by_cases c2 : j < 8
        · exact .inl ⟨eq_true (by omega), eq_true (by omega)⟩
        · exact .inr (.inl ⟨eq_true (by omega), eq_false (by omega)⟩)
        · exact .inr (.inr (eq_false (by omega)))
        · exact .inr (.inr (eq_false (by omega)))
      rcases go with ⟨g1, g2⟩ | go
      · have c1 : j < b.length := by have := of_eq_true g1; omega
        have c2 : j < 8 := by have := of_eq_true g2; omega
        have wj : IntKind.i64.wrap ((j : Int) + 1) = ((j + 1 : Nat) : Int) := wrap_succ (by omega)
        obtain ⟨x, hx⟩ : ∃ x, b[j]? = some x := ⟨b[j], List.getElem?_eq_getElem c1⟩
        have ae : ∀ (K : D → AHeap → Prop) (h : AHeap), askE 1 K h (encS b) (j : Int) = K (.eptr [.str x] 0) h := fun K h => askE_strs hx
        have qx := q12_eq x
        have f := preS_succ hx
        generalize preS b j = B at *
        simp (config := {maxSteps := 1000000}) only [lb, g1, g2, ae, qx, wj, lB, n1, n2, n3, n4, n5, n6, encS_app, ← f, tb10_e, tb19_e, Int.natCast_nonneg, Nat.le_refl, Int.le_refl, List.take_succ_cons, List.take_zero, decide_true, decide_false, Bool.and_false, Bool.false_and, zz, zzN, zzF, fltEv, isArithF, ↓reduceIte, Nat.reduceEqDiff, Nat.reduceBEq, Int.reduceLT, Int.reduceLE, Int.reduceToNat, Int.reduceEq, Int.reduceAdd, Int.reduceSub, Int.reduceMul, Int.reduceNeg, Nat.reduceMul, Nat.reduceSub, Nat.reduceLeDiff, Nat.reduceLT, Int.reduceGT, Int.reduceBEq, Int.reduceBNe, reduceCtorEq, Nat.reduceAdd, Ins.map, Fr.ev, argFr, argE, binEv, intEv, shEv, strEv, unEv, Fr.mark, evRes, tup, lenD, lookupD, loadD, partD, storeD, cellsD, cellOk, setAt, objNe, objSame, eqEv, readEv, buildD, buildRows, rowsOf, elemsOf]
        intro _
        refine ⟨by omega, hQ (j + 1) _ _ ⟨by omega, by omega⟩ (by simp only [show j + 2 + 1 = j + 1 + 2 from rfl, Int.natCast_nonneg, Nat.le_refl, Int.le_refl, List.take_succ_cons, List.take_zero, decide_true, decide_false, Bool.and_false, Bool.false_and, zz, zzN, zzF, fltEv, isArithF, ↓reduceIte, Nat.reduceEqDiff, Nat.reduceBEq, Int.reduceLT, Int.reduceLE, Int.reduceToNat, Int.reduceEq, Int.reduceAdd, Int.reduceSub, Int.reduceMul, Int.reduceNeg, Nat.reduceMul, Nat.reduceSub, Nat.reduceLeDiff, Nat.reduceLT, Int.reduceGT, Int.reduceBEq, Int.reduceBNe, reduceCtorEq, Nat.reduceAdd, Ins.map, Fr.ev, argFr, argE, binEv, intEv, shEv, strEv, unEv, Fr.mark, evRes, tup, lenD, lookupD, loadD, partD, storeD, cellsD, cellOk, setAt, objNe, objSame, eqEv, readEv, buildD, buildRows, rowsOf, elemsOf]) ?_ (by omega)⟩
        exact AHeap.sub_X (by repeat' first | with_reducible exact AHeap.subX_refl | with_reducible exact AHeap.subX_emp | refine AHeap.subX_l (by simp [n1, n2, n3, n4, n5, n6]) ?_ | refine AHeap.subX_r (by simp [n1, n2, n3, n4, n5, n6]) ?_)
      · have sB : ∀ s ∈ preS b j, s.length < 65536 := mem_preS
        have oB := okP_of hq (by rw [len_preS hjb]; omega) sB
        have tB : (preS b j).length = j := len_preS hjb
        clear hQ
        generalize preS b j = B at *
        have inj := fun h => parts_inj hp hq sA sB h
        have q1 := q19_eq oA
        have q2 := q19_eq oB
        have q3 := q20_eq oA
        have q4 := q20_eq oB
        have q5 := q21_eq oA
        have q6 := q21_eq oB
        have le1 : (encS A).take i = encS A := List.take_of_length_le (by omega)
        have le2 : (encS B).take j = encS B := List.take_of_length_le (by omega)
        have eqs : p = q → A = B → partsB (UInt8.ofNat p.toNat) A = partsB (UInt8.ofNat q.toNat) B := fun h1 h2 => by rw [h1, h2]
        generalize partsB (UInt8.ofNat p.toNat) A = S at *
        generalize partsB (UInt8.ofNat q.toNat) B = T at *
        have bpl : ((p == q) = false) ∨ ((p == q) = true ∧ ((i : Int) == (j : Int)) = false) ∨ ((p == q) = true ∧ ((i : Int) == (j : Int)) = true) := by
          cases (p == q) <;> cases ((i : Int) == (j : Int)) <;> simp
        rcases go with ⟨g1, g2⟩ | g1 <;> rcases bpl with bp | ⟨bp, bl⟩ | ⟨bp, bl⟩
        · simp (config := {maxSteps := 1000000}) only [lb, g1, g2, bp, lA, lB, le1, le2, n1, n2, n3, n4, n5, n6, q1, q2, tb10_e, tb19_e, Int.natCast_nonneg, Nat.le_refl, Int.le_refl, List.take_succ_cons, List.take_zero, decide_true, decide_false, Bool.and_false, Bool.false_and, zz, zzN, zzF, fltEv, isArithF, ↓reduceIte, Nat.reduceEqDiff, Nat.reduceBEq, Int.reduceLT, Int.reduceLE, Int.reduceToNat, Int.reduceEq, Int.reduceAdd, Int.reduceSub, Int.reduceMul, Int.reduceNeg, Nat.reduceMul, Nat.reduceSub, Nat.reduceLeDiff, Nat.reduceLT, Int.reduceGT, Int.reduceBEq, Int.reduceBNe, reduceCtorEq, Nat.reduceAdd, Ins.map, Fr.ev, argFr, argE, binEv, intEv, shEv, strEv, unEv, Fr.mark, evRes, tup, lenD, lookupD, loadD, partD, storeD, cellsD, cellOk, setAt, objNe, objSame, eqEv, readEv, buildD, buildRows, rowsOf, elemsOf]
          intro _
          refine run_loop (X := Nat × Bool) (fun x => [(0, .int .u8 p), (1, .int .u8 q), (7, .row ra (i + 2) 0 i), (8, .row rb (j + 2) 0 j), (11, .str (shaB S)), (12, .str (shaB T)), (13, .bool x.2), (14, .int .i64 x.1)])
            (fun x => (AHeap.emp.set ra (.row 1 (i + 2) (encS A) true)).set rb (.row 1 (j + 2) (encS B) true)) (fun x => i - x.1) (fun x => x.1 ≤ i ∧ (x.2 = true → p = q ∧ i = j ∧ A.take x.1 = B.take x.1) ∧ (x.2 = false → ¬ (p = q ∧ A = B))) (0, false) ?_ ?_ ?_ ?_
          · refine ⟨by omega, by simp, fun _ h => ?_⟩
            obtain ⟨h1, h2⟩ := h
            subst h1 h2
            first | (simp at bp; done) | (have : i = j := by omega
                                          subst this; simp at bl; done)
          · simp only [Int.natCast_nonneg, Nat.le_refl, Int.le_refl, List.take_succ_cons, List.take_zero, decide_true, decide_false, Bool.and_false, Bool.false_and, zz, zzN, zzF, fltEv, isArithF, ↓reduceIte, Nat.reduceEqDiff, Nat.reduceBEq, Int.reduceLT, Int.reduceLE, Int.reduceToNat, Int.reduceEq, Int.reduceAdd, Int.reduceSub, Int.reduceMul, Int.reduceNeg, Nat.reduceMul, Nat.reduceSub, Nat.reduceLeDiff, Nat.reduceLT, Int.reduceGT, Int.reduceBEq, Int.reduceBNe, reduceCtorEq, Nat.reduceAdd, Ins.map, Fr.ev, argFr, argE, binEv, intEv, shEv, strEv, unEv, Fr.mark, evRes, tup, lenD, lookupD, loadD, partD, storeD, cellsD, cellOk, setAt, objNe, objSame, eqEv, readEv, buildD, buildRows, rowsOf, elemsOf]
          · exact AHeap.sub_X (by repeat' first | with_reducible exact AHeap.subX_refl | with_reducible exact AHeap.subX_emp | refine AHeap.subX_l (by simp [n1, n2, n3, n4, n5, n6]) ?_ | refine AHeap.subX_r (by simp [n1, n2, n3, n4, n5, n6]) ?_)
          rintro ⟨k, sm⟩ Q ⟨hk, hT, hF⟩ hQ
          simp only at hk hT hF
          cases sm
          · have fin : S = T → p = q ∧ A = B := inj
            have ne : (S == T) = false := by
              cases e : S == T
              · rfl
              · exact absurd (inj (eq_of_beq e)) (hF rfl)
            by_cases c : k < i
            · have g3 : ((k : Int) < (i : Int)) = True := eq_true (by omega)
              cases es : (shaB S == shaB T)
              · simp (config := {maxSteps := 1000000}) only [g3, lA, lB, le1, le2, q3, q4, q5, q6, q8_eq, ne, es, q18_eq, n1, n2, n3, n4, n5, n6, tb10_e, tb19_e, Int.natCast_nonneg, Nat.le_refl, Int.le_refl, List.take_succ_cons, List.take_zero, decide_true, decide_false, Bool.and_false, Bool.false_and, zz, zzN, zzF, fltEv, isArithF, ↓reduceIte, Nat.reduceEqDiff, Nat.reduceBEq, Int.reduceLT, Int.reduceLE, Int.reduceToNat, Int.reduceEq, Int.reduceAdd, Int.reduceSub, Int.reduceMul, Int.reduceNeg, Nat.reduceMul, Nat.reduceSub, Nat.reduceLeDiff, Nat.reduceLT, Int.reduceGT, Int.reduceBEq, Int.reduceBNe, reduceCtorEq, Nat.reduceAdd, Ins.map, Fr.ev, argFr, argE, binEv, intEv, shEv, strEv, unEv, Fr.mark, evRes, tup, lenD, lookupD, loadD, partD, storeD, cellsD, cellOk, setAt, objNe, objSame, eqEv, readEv, buildD, buildRows, rowsOf, elemsOf]
              · simp (config := {maxSteps := 1000000}) only [g3, lA, lB, le1, le2, q3, q4, q5, q6, q8_eq, ne, es, q18_eq, n1, n2, n3, n4, n5, n6, tb10_e, tb19_e, Int.natCast_nonneg, Nat.le_refl, Int.le_refl, List.take_succ_cons, List.take_zero, decide_true, decide_false, Bool.and_false, Bool.false_and, zz, zzN, zzF, fltEv, isArithF, ↓reduceIte, Nat.reduceEqDiff, Nat.reduceBEq, Int.reduceLT, Int.reduceLE, Int.reduceToNat, Int.reduceEq, Int.reduceAdd, Int.reduceSub, Int.reduceMul, Int.reduceNeg, Nat.reduceMul, Nat.reduceSub, Nat.reduceLeDiff, Nat.reduceLT, Int.reduceGT, Int.reduceBEq, Int.reduceBNe, reduceCtorEq, Nat.reduceAdd, Ins.map, Fr.ev, argFr, argE, binEv, intEv, shEv, strEv, unEv, Fr.mark, evRes, tup, lenD, lookupD, loadD, partD, storeD, cellsD, cellOk, setAt, objNe, objSame, eqEv, readEv, buildD, buildRows, rowsOf, elemsOf]
            · have g3 : ((k : Int) < (i : Int)) = False := eq_false (by omega)
              cases es : (shaB S == shaB T)
              · simp (config := {maxSteps := 1000000}) only [g3, lA, lB, le1, le2, q3, q4, q5, q6, q8_eq, ne, es, q18_eq, n1, n2, n3, n4, n5, n6, tb10_e, tb19_e, Int.natCast_nonneg, Nat.le_refl, Int.le_refl, List.take_succ_cons, List.take_zero, decide_true, decide_false, Bool.and_false, Bool.false_and, zz, zzN, zzF, fltEv, isArithF, ↓reduceIte, Nat.reduceEqDiff, Nat.reduceBEq, Int.reduceLT, Int.reduceLE, Int.reduceToNat, Int.reduceEq, Int.reduceAdd, Int.reduceSub, Int.reduceMul, Int.reduceNeg, Nat.reduceMul, Nat.reduceSub, Nat.reduceLeDiff, Nat.reduceLT, Int.reduceGT, Int.reduceBEq, Int.reduceBNe, reduceCtorEq, Nat.reduceAdd, Ins.map, Fr.ev, argFr, argE, binEv, intEv, shEv, strEv, unEv, Fr.mark, evRes, tup, lenD, lookupD, loadD, partD, storeD, cellsD, cellOk, setAt, objNe, objSame, eqEv, readEv, buildD, buildRows, rowsOf, elemsOf]
              · simp (config := {maxSteps := 1000000}) only [g3, lA, lB, le1, le2, q3, q4, q5, q6, q8_eq, ne, es, q18_eq, n1, n2, n3, n4, n5, n6, tb10_e, tb19_e, Int.natCast_nonneg, Nat.le_refl, Int.le_refl, List.take_succ_cons, List.take_zero, decide_true, decide_false, Bool.and_false, Bool.false_and, zz, zzN, zzF, fltEv, isArithF, ↓reduceIte, Nat.reduceEqDiff, Nat.reduceBEq, Int.reduceLT, Int.reduceLE, Int.reduceToNat, Int.reduceEq, Int.reduceAdd, Int.reduceSub, Int.reduceMul, Int.reduceNeg, Nat.reduceMul, Nat.reduceSub, Nat.reduceLeDiff, Nat.reduceLT, Int.reduceGT, Int.reduceBEq, Int.reduceBNe, reduceCtorEq, Nat.reduceAdd, Ins.map, Fr.ev, argFr, argE, binEv, intEv, shEv, strEv, unEv, Fr.mark, evRes, tup, lenD, lookupD, loadD, partD, storeD, cellsD, cellOk, setAt, objNe, objSame, eqEv, readEv, buildD, buildRows, rowsOf, elemsOf]
          · obtain ⟨h1, h2, h3⟩ := hT rfl
            by_cases c : k < i
            · have g3 : ((k : Int) < (i : Int)) = True := eq_true (by omega)
              have wk : IntKind.i64.wrap ((k : Int) + 1) = ((k + 1 : Nat) : Int) := wrap_succ (by omega)
              have kA : k < A.length := by omega
              have kB : k < B.length := by omega
              obtain ⟨x, hx⟩ : ∃ x, A[k]? = some x := ⟨A[k], List.getElem?_eq_getElem kA⟩
              obtain ⟨y, hy⟩ : ∃ y, B[k]? = some y := ⟨B[k], List.getElem?_eq_getElem kB⟩
              have ex : (encS A)[k]? = some [.str x] := by rw [encS_get, hx]; rfl
              have ey : (encS B)[k]? = some [.str y] := by rw [encS_get, hy]; rfl
              simp (config := {maxSteps := 1000000}) only [g3, wk, lA, lB, ex, ey, n1, n2, n3, n4, n5, n6, tb10_e, tb19_e, Int.natCast_nonneg, Nat.le_refl, Int.le_refl, List.take_succ_cons, List.take_zero, decide_true, decide_false, Bool.and_false, Bool.false_and, zz, zzN, zzF, fltEv, isArithF, ↓reduceIte, Nat.reduceEqDiff, Nat.reduceBEq, Int.reduceLT, Int.reduceLE, Int.reduceToNat, Int.reduceEq, Int.reduceAdd, Int.reduceSub, Int.reduceMul, Int.reduceNeg, Nat.reduceMul, Nat.reduceSub, Nat.reduceLeDiff, Nat.reduceLT, Int.reduceGT, Int.reduceBEq, Int.reduceBNe, reduceCtorEq, Nat.reduceAdd, Ins.map, Fr.ev, argFr, argE, binEv, intEv, shEv, strEv, unEv, Fr.mark, evRes, tup, lenD, lookupD, loadD, partD, storeD, cellsD, cellOk, setAt, objNe, objSame, eqEv, readEv, buildD, buildRows, rowsOf, elemsOf]
              intro _
              refine ⟨by omega, hQ (k + 1, x == y) _ _ ⟨by simp only; omega, fun e => ⟨h1, h2, ?_⟩, fun e he => ?_⟩ (by simp only [Int.natCast_nonneg, Nat.le_refl, Int.le_refl, List.take_succ_cons, List.take_zero, decide_true, decide_false, Bool.and_false, Bool.false_and, zz, zzN, zzF, fltEv, isArithF, ↓reduceIte, Nat.reduceEqDiff, Nat.reduceBEq, Int.reduceLT, Int.reduceLE, Int.reduceToNat, Int.reduceEq, Int.reduceAdd, Int.reduceSub, Int.reduceMul, Int.reduceNeg, Nat.reduceMul, Nat.reduceSub, Nat.reduceLeDiff, Nat.reduceLT, Int.reduceGT, Int.reduceBEq, Int.reduceBNe, reduceCtorEq, Nat.reduceAdd, Ins.map, Fr.ev, argFr, argE, binEv, intEv, shEv, strEv, unEv, Fr.mark, evRes, tup, lenD, lookupD, loadD, partD, storeD, cellsD, cellOk, setAt, objNe, objSame, eqEv, readEv, buildD, buildRows, rowsOf, elemsOf]) (AHeap.sub_refl _) (by simp only; omega)⟩
              · simp only at e ⊢
                rw [List.take_add_one, List.take_add_one, hx, hy, h3, eq_of_beq e]
              · simp only at e
                rw [he.2, hy] at hx
                cases hx
                simp at e
            · have g3 : ((k : Int) < (i : Int)) = False := eq_false (by omega)
              have hAB : A = B := by
                rw [List.take_of_length_le (by omega), List.take_of_length_le (by omega)] at h3
                exact h3
              have hST := eqs h1 hAB
              subst hST
              have eS : (S == S) = true := beq_self_eq_true _
              simp (config := {maxSteps := 1000000}) only [g3, lA, lB, le1, le2, q3, q4, q5, q6, q8_eq, eS, n1, n2, n3, n4, n5, n6, tb10_e, tb19_e, Int.natCast_nonneg, Nat.le_refl, Int.le_refl, List.take_succ_cons, List.take_zero, decide_true, decide_false, Bool.and_false, Bool.false_and, zz, zzN, zzF, fltEv, isArithF, ↓reduceIte, Nat.reduceEqDiff, Nat.reduceBEq, Int.reduceLT, Int.reduceLE, Int.reduceToNat, Int.reduceEq, Int.reduceAdd, Int.reduceSub, Int.reduceMul, Int.reduceNeg, Nat.reduceMul, Nat.reduceSub, Nat.reduceLeDiff, Nat.reduceLT, Int.reduceGT, Int.reduceBEq, Int.reduceBNe, reduceCtorEq, Nat.reduceAdd, Ins.map, Fr.ev, argFr, argE, binEv, intEv, shEv, strEv, unEv, Fr.mark, evRes, tup, lenD, lookupD, loadD, partD, storeD, cellsD, cellOk, setAt, objNe, objSame, eqEv, readEv, buildD, buildRows, rowsOf, elemsOf]
        · simp (config := {maxSteps := 1000000}) only [lb, g1, g2, bp, bl, lA, lB, le1, le2, n1, n2, n3, n4, n5, n6, q1, q2, tb10_e, tb19_e, Int.natCast_nonneg, Nat.le_refl, Int.le_refl, List.take_succ_cons, List.take_zero, decide_true, decide_false, Bool.and_false, Bool.false_and, zz, zzN, zzF, fltEv, isArithF, ↓reduceIte, Nat.reduceEqDiff, Nat.reduceBEq, Int.reduceLT, Int.reduceLE, Int.reduceToNat, Int.reduceEq, Int.reduceAdd, Int.reduceSub, Int.reduceMul, Int.reduceNeg, Nat.reduceMul, Nat.reduceSub, Nat.reduceLeDiff, Nat.reduceLT, Int.reduceGT, Int.reduceBEq, Int.reduceBNe, reduceCtorEq, Nat.reduceAdd, Ins.map, Fr.ev, argFr, argE, binEv, intEv, shEv, strEv, unEv, Fr.mark, evRes, tup, lenD, lookupD, loadD, partD, storeD, cellsD, cellOk, setAt, objNe, objSame, eqEv, readEv, buildD, buildRows, rowsOf, elemsOf]
          intro _ _ _
          refine run_loop (X := Nat × Bool) (fun x => [(0, .int .u8 p), (1, .int .u8 q), (7, .row ra (i + 2) 0 i), (8, .row rb (j + 2) 0 j), (11, .str (shaB S)), (12, .str (shaB T)), (13, .bool x.2), (14, .int .i64 x.1)])
            (fun x => (AHeap.emp.set ra (.row 1 (i + 2) (encS A) true)).set rb (.row 1 (j + 2) (encS B) true)) (fun x => i - x.1) (fun x => x.1 ≤ i ∧ (x.2 = true → p = q ∧ i = j ∧ A.take x.1 = B.take x.1) ∧ (x.2 = false → ¬ (p = q ∧ A = B))) (0, false) ?_ ?_ ?_ ?_
          · refine ⟨by omega, by simp, fun _ h => ?_⟩
            obtain ⟨h1, h2⟩ := h
            subst h1 h2
            first | (simp at bp; done) | (have : i = j := by omega
                                          subst this; simp at bl; done)
          · simp only [Int.natCast_nonneg, Nat.le_refl, Int.le_refl, List.take_succ_cons, List.take_zero, decide_true, decide_false, Bool.and_false, Bool.false_and, zz, zzN, zzF, fltEv, isArithF, ↓reduceIte, Nat.reduceEqDiff, Nat.reduceBEq, Int.reduceLT, Int.reduceLE, Int.reduceToNat, Int.reduceEq, Int.reduceAdd, Int.reduceSub, Int.reduceMul, Int.reduceNeg, Nat.reduceMul, Nat.reduceSub, Nat.reduceLeDiff, Nat.reduceLT, Int.reduceGT, Int.reduceBEq, Int.reduceBNe, reduceCtorEq, Nat.reduceAdd, Ins.map, Fr.ev, argFr, argE, binEv, intEv, shEv, strEv, unEv, Fr.mark, evRes, tup, lenD, lookupD, loadD, partD, storeD, cellsD, cellOk, setAt, objNe, objSame, eqEv, readEv, buildD, buildRows, rowsOf, elemsOf]
          · exact AHeap.sub_X (by repeat' first | with_reducible exact AHeap.subX_refl | with_reducible exact AHeap.subX_emp | refine AHeap.subX_l (by simp [n1, n2, n3, n4, n5, n6]) ?_ | refine AHeap.subX_r (by simp [n1, n2, n3, n4, n5, n6]) ?_)
          rintro ⟨k, sm⟩ Q ⟨hk, hT, hF⟩ hQ
          simp only at hk hT hF
          cases sm
          · have fin : S = T → p = q ∧ A = B := inj
            have ne : (S == T) = false := by
              cases e : S == T
              · rfl
              · exact absurd (inj (eq_of_beq e)) (hF rfl)
            by_cases c : k < i
            · have g3 : ((k : Int) < (i : Int)) = True := eq_true (by omega)
              cases es : (shaB S == shaB T)
              · simp (config := {maxSteps := 1000000}) only [g3, lA, lB, le1, le2, q3, q4, q5, q6, q8_eq, ne, es, q18_eq, n1, n2, n3, n4, n5, n6, tb10_e, tb19_e, Int.natCast_nonneg, Nat.le_refl, Int.le_refl, List.take_succ_cons, List.take_zero, decide_true, decide_false, Bool.and_false, Bool.false_and, zz, zzN, zzF, fltEv, isArithF, ↓reduceIte, Nat.reduceEqDiff, Nat.reduceBEq, Int.reduceLT, Int.reduceLE, Int.reduceToNat, Int.reduceEq, Int.reduceAdd, Int.reduceSub, Int.reduceMul, Int.reduceNeg, Nat.reduceMul, Nat.reduceSub, Nat.reduceLeDiff, Nat.reduceLT, Int.reduceGT, Int.reduceBEq, Int.reduceBNe, reduceCtorEq, Nat.reduceAdd, Ins.map, Fr.ev, argFr, argE, binEv, intEv, shEv, strEv, unEv, Fr.mark, evRes, tup, lenD, lookupD, loadD, partD, storeD, cellsD, cellOk, setAt, objNe, objSame, eqEv, readEv, buildD, buildRows, rowsOf, elemsOf]
              · simp (config := {maxSteps := 1000000}) only [g3, lA, lB, le1, le2, q3, q4, q5, q6, q8_eq, ne, es, q18_eq, n1, n2, n3, n4, n5, n6, tb10_e, tb19_e, Int.natCast_nonneg, Nat.le_refl, Int.le_refl, List.take_succ_cons, List.take_zero, decide_true, decide_false, Bool.and_false, Bool.false_and, zz, zzN, zzF, fltEv, isArithF, ↓reduceIte, Nat.reduceEqDiff, Nat.reduceBEq, Int.reduceLT, Int.reduceLE, Int.reduceToNat, Int.reduceEq, Int.reduceAdd, Int.reduceSub, Int.reduceMul, Int.reduceNeg, Nat.reduceMul, Nat.reduceSub, Nat.reduceLeDiff, Nat.reduceLT, Int.reduceGT, Int.reduceBEq, Int.reduceBNe, reduceCtorEq, Nat.reduceAdd, Ins.map, Fr.ev, argFr, argE, binEv, intEv, shEv, strEv, unEv, Fr.mark, evRes, tup, lenD, lookupD, loadD, partD, storeD, cellsD, cellOk, setAt, objNe, objSame, eqEv, readEv, buildD, buildRows, rowsOf, elemsOf]
            · have g3 : ((k : Int) < (i : Int)) = False := eq_false (by omega)
              cases es : (shaB S == shaB T)
              · simp (config := {maxSteps := 1000000}) only [g3, lA, lB, le1, le2, q3, q4, q5, q6, q8_eq, ne, es, q18_eq, n1, n2, n3, n4, n5, n6, tb10_e, tb19_e, Int.natCast_nonneg, Nat.le_refl, Int.le_refl, List.take_succ_cons, List.take_zero, decide_true, decide_false, Bool.and_false, Bool.false_and, zz, zzN, zzF, fltEv, isArithF, ↓reduceIte, Nat.reduceEqDiff, Nat.reduceBEq, Int.reduceLT, Int.reduceLE, Int.reduceToNat, Int.reduceEq, Int.reduceAdd, Int.reduceSub, Int.reduceMul, Int.reduceNeg, Nat.reduceMul, Nat.reduceSub, Nat.reduceLeDiff, Nat.reduceLT, Int.reduceGT, Int.reduceBEq, Int.reduceBNe, reduceCtorEq, Nat.reduceAdd, Ins.map, Fr.ev, argFr, argE, binEv, intEv, shEv, strEv, unEv, Fr.mark, evRes, tup, lenD, lookupD, loadD, partD, storeD, cellsD, cellOk, setAt, objNe, objSame, eqEv, readEv, buildD, buildRows, rowsOf, elemsOf]
              · simp (config := {maxSteps := 1000000}) only [g3, lA, lB, le1, le2, q3, q4, q5, q6, q8_eq, ne, es, q18_eq, n1, n2, n3, n4, n5, n6, tb10_e, tb19_e, Int.natCast_nonneg, Nat.le_refl, Int.le_refl, List.take_succ_cons, List.take_zero, decide_true, decide_false, Bool.and_false, Bool.false_and, zz, zzN, zzF, fltEv, isArithF, ↓reduceIte, Nat.reduceEqDiff, Nat.reduceBEq, Int.reduceLT, Int.reduceLE, Int.reduceToNat, Int.reduceEq, Int.reduceAdd, Int.reduceSub, Int.reduceMul, Int.reduceNeg, Nat.reduceMul, Nat.reduceSub, Nat.reduceLeDiff, Nat.reduceLT, Int.reduceGT, Int.reduceBEq, Int.reduceBNe, reduceCtorEq, Nat.reduceAdd, Ins.map, Fr.ev, argFr, argE, binEv, intEv, shEv, strEv, unEv, Fr.mark, evRes, tup, lenD, lookupD, loadD, partD, storeD, cellsD, cellOk, setAt, objNe, objSame, eqEv, readEv, buildD, buildRows, rowsOf, elemsOf]
          · obtain ⟨h1, h2, h3⟩ := hT rfl
            by_cases c : k < i
            · have g3 : ((k : Int) < (i : Int)) = True := eq_true (by omega)
              have wk : IntKind.i64.wrap ((k : Int) + 1) = ((k + 1 : Nat) : Int) := wrap_succ (by omega)
              have kA : k < A.length := by omega
              have kB : k < B.length := by omega
              obtain ⟨x, hx⟩ : ∃ x, A[k]? = some x := ⟨A[k], List.getElem?_eq_getElem kA⟩
              obtain ⟨y, hy⟩ : ∃ y, B[k]? = some y := ⟨B[k], List.getElem?_eq_getElem kB⟩
              have ex : (encS A)[k]? = some [.str x] := by rw [encS_get, hx]; rfl
              have ey : (encS B)[k]? = some [.str y] := by rw [encS_get, hy]; rfl
              simp (config := {maxSteps := 1000000}) only [g3, wk, lA, lB, ex, ey, n1, n2, n3, n4, n5, n6, tb10_e, tb19_e, Int.natCast_nonneg, Nat.le_refl, Int.le_refl, List.take_succ_cons, List.take_zero, decide_true, decide_false, Bool.and_false, Bool.false_and, zz, zzN, zzF, fltEv, isArithF, ↓reduceIte, Nat.reduceEqDiff, Nat.reduceBEq, Int.reduceLT, Int.reduceLE, Int.reduceToNat, Int.reduceEq, Int.reduceAdd, Int.reduceSub, Int.reduceMul, Int.reduceNeg, Nat.reduceMul, Nat.reduceSub, Nat.reduceLeDiff, Nat.reduceLT, Int.reduceGT, Int.reduceBEq, Int.reduceBNe, reduceCtorEq, Nat.reduceAdd, Ins.map, Fr.ev, argFr, argE, binEv, intEv, shEv, strEv, unEv, Fr.mark, evRes, tup, lenD, lookupD, loadD, partD, storeD, cellsD, cellOk, setAt, objNe, objSame, eqEv, readEv, buildD, buildRows, rowsOf, elemsOf]
              intro _
              refine ⟨by omega, hQ (k + 1, x == y) _ _ ⟨by simp only; omega, fun e => ⟨h1, h2, ?_⟩, fun e he => ?_⟩ (by simp only [Int.natCast_nonneg, Nat.le_refl, Int.le_refl, List.take_succ_cons, List.take_zero, decide_true, decide_false, Bool.and_false, Bool.false_and, zz, zzN, zzF, fltEv, isArithF, ↓reduceIte, Nat.reduceEqDiff, Nat.reduceBEq, Int.reduceLT, Int.reduceLE, Int.reduceToNat, Int.reduceEq, Int.reduceAdd, Int.reduceSub, Int.reduceMul, Int.reduceNeg, Nat.reduceMul, Nat.reduceSub, Nat.reduceLeDiff, Nat.reduceLT, Int.reduceGT, Int.reduceBEq, Int.reduceBNe, reduceCtorEq, Nat.reduceAdd, Ins.map, Fr.ev, argFr, argE, binEv, intEv, shEv, strEv, unEv, Fr.mark, evRes, tup, lenD, lookupD, loadD, partD, storeD, cellsD, cellOk, setAt, objNe, objSame, eqEv, readEv, buildD, buildRows, rowsOf, elemsOf]) (AHeap.sub_refl _) (by simp only; omega)⟩
              · simp only at e ⊢
                rw [List.take_add_one, List.take_add_one, hx, hy, h3, eq_of_beq e]
              · simp only at e
                rw [he.2, hy] at hx
                cases hx
                simp at e
            · have g3 : ((k : Int) < (i : Int)) = False := eq_false (by omega)
              have hAB : A = B := by
                rw [List.take_of_length_le (by omega), List.take_of_length_le (by omega)] at h3
                exact h3
              have hST := eqs h1 hAB
              subst hST
              have eS : (S == S) = true := beq_self_eq_true _
              simp (config := {maxSteps := 1000000}) only [g3, lA, lB, le1, le2, q3, q4, q5, q6, q8_eq, eS, n1, n2, n3, n4, n5, n6, tb10_e, tb19_e, Int.natCast_nonneg, Nat.le_refl, Int.le_refl, List.take_succ_cons, List.take_zero, decide_true, decide_false, Bool.and_false, Bool.false_and, zz, zzN, zzF, fltEv, isArithF, ↓reduceIte, Nat.reduceEqDiff, Nat.reduceBEq, Int.reduceLT, Int.reduceLE, Int.reduceToNat, Int.reduceEq, Int.reduceAdd, Int.reduceSub, Int.reduceMul, Int.reduceNeg, Nat.reduceMul, Nat.reduceSub, Nat.reduceLeDiff, Nat.reduceLT, Int.reduceGT, Int.reduceBEq, Int.reduceBNe, reduceCtorEq, Nat.reduceAdd, Ins.map, Fr.ev, argFr, argE, binEv, intEv, shEv, strEv, unEv, Fr.mark, evRes, tup, lenD, lookupD, loadD, partD, storeD, cellsD, cellOk, setAt, objNe, objSame, eqEv, readEv, buildD, buildRows, rowsOf, elemsOf]
        · simp (config := {maxSteps := 1000000}) only [lb, g1, g2, bp, bl, lA, lB, le1, le2, n1, n2, n3, n4, n5, n6, q1, q2, tb10_e, tb19_e, Int.natCast_nonneg, Nat.le_refl, Int.le_refl, List.take_succ_cons, List.take_zero, decide_true, decide_false, Bool.and_false, Bool.false_and, zz, zzN, zzF, fltEv, isArithF, ↓reduceIte, Nat.reduceEqDiff, Nat.reduceBEq, Int.reduceLT, Int.reduceLE, Int.reduceToNat, Int.reduceEq, Int.reduceAdd, Int.reduceSub, Int.reduceMul, Int.reduceNeg, Nat.reduceMul, Nat.reduceSub, Nat.reduceLeDiff, Nat.reduceLT, Int.reduceGT, Int.reduceBEq, Int.reduceBNe, reduceCtorEq, Nat.reduceAdd, Ins.map, Fr.ev, argFr, argE, binEv, intEv, shEv, strEv, unEv, Fr.mark, evRes, tup, lenD, lookupD, loadD, partD, storeD, cellsD, cellOk, setAt, objNe, objSame, eqEv, readEv, buildD, buildRows, rowsOf, elemsOf]
          intro _ _ _
          refine run_loop (X := Nat × Bool) (fun x => [(0, .int .u8 p), (1, .int .u8 q), (7, .row ra (i + 2) 0 i), (8, .row rb (j + 2) 0 j), (11, .str (shaB S)), (12, .str (shaB T)), (13, .bool x.2), (14, .int .i64 x.1)])
            (fun x => (AHeap.emp.set ra (.row 1 (i + 2) (encS A) true)).set rb (.row 1 (j + 2) (encS B) true)) (fun x => i - x.1) (fun x => x.1 ≤ i ∧ (x.2 = true → p = q ∧ i = j ∧ A.take x.1 = B.take x.1) ∧ (x.2 = false → ¬ (p = q ∧ A = B))) (0, true) ?_ ?_ ?_ ?_
          · refine ⟨by omega, fun _ => ⟨by simpa using bp, by have := eq_of_beq bl; omega, rfl⟩, by simp⟩
          · simp only [Int.natCast_nonneg, Nat.le_refl, Int.le_refl, List.take_succ_cons, List.take_zero, decide_true, decide_false, Bool.and_false, Bool.false_and, zz, zzN, zzF, fltEv, isArithF, ↓reduceIte, Nat.reduceEqDiff, Nat.reduceBEq, Int.reduceLT, Int.reduceLE, Int.reduceToNat, Int.reduceEq, Int.reduceAdd, Int.reduceSub, Int.reduceMul, Int.reduceNeg, Nat.reduceMul, Nat.reduceSub, Nat.reduceLeDiff, Nat.reduceLT, Int.reduceGT, Int.reduceBEq, Int.reduceBNe, reduceCtorEq, Nat.reduceAdd, Ins.map, Fr.ev, argFr, argE, binEv, intEv, shEv, strEv, unEv, Fr.mark, evRes, tup, lenD, lookupD, loadD, partD, storeD, cellsD, cellOk, setAt, objNe, objSame, eqEv, readEv, buildD, buildRows, rowsOf, elemsOf]
          · exact AHeap.sub_X (by repeat' first | with_reducible exact AHeap.subX_refl | with_reducible exact AHeap.subX_emp | refine AHeap.subX_l (by simp [n1, n2, n3, n4, n5, n6]) ?_ | refine AHeap.subX_r (by simp [n1, n2, n3, n4, n5, n6]) ?_)
          rintro ⟨k, sm⟩ Q ⟨hk, hT, hF⟩ hQ
          simp only at hk hT hF
          cases sm
          · have fin : S = T → p = q ∧ A = B := inj
            have ne : (S == T) = false := by
              cases e : S == T
              · rfl
              · exact absurd (inj (eq_of_beq e)) (hF rfl)
            by_cases c : k < i
            · have g3 : ((k : Int) < (i : Int)) = True := eq_true (by omega)
              cases es : (shaB S == shaB T)
              · simp (config := {maxSteps := 1000000}) only [g3, lA, lB, le1, le2, q3, q4, q5, q6, q8_eq, ne, es, q18_eq, n1, n2, n3, n4, n5, n6, tb10_e, tb19_e, Int.natCast_nonneg, Nat.le_refl, Int.le_refl, List.take_succ_cons, List.take_zero, decide_true, decide_false, Bool.and_false, Bool.false_and, zz, zzN, zzF, fltEv, isArithF, ↓reduceIte, Nat.reduceEqDiff, Nat.reduceBEq, Int.reduceLT, Int.reduceLE, Int.reduceToNat, Int.reduceEq, Int.reduceAdd, Int.reduceSub, Int.reduceMul, Int.reduceNeg, Nat.reduceMul, Nat.reduceSub, Nat.reduceLeDiff, Nat.reduceLT, Int.reduceGT, Int.reduceBEq, Int.reduceBNe, reduceCtorEq, Nat.reduceAdd, Ins.map, Fr.ev, argFr, argE, binEv, intEv, shEv, strEv, unEv, Fr.mark, evRes, tup, lenD, lookupD, loadD, partD, storeD, cellsD, cellOk, setAt, objNe, objSame, eqEv, readEv, buildD, buildRows, rowsOf, elemsOf]
              · simp (config := {maxSteps := 1000000}) only [g3, lA, lB, le1, le2, q3, q4, q5, q6, q8_eq, ne, es, q18_eq, n1, n2, n3, n4, n5, n6, tb10_e, tb19_e, Int.natCast_nonneg, Nat.le_refl, Int.le_refl, List.take_succ_cons, List.take_zero, decide_true, decide_false, Bool.and_false, Bool.false_and, zz, zzN, zzF, fltEv, isArithF, ↓reduceIte, Nat.reduceEqDiff, Nat.reduceBEq, Int.reduceLT, Int.reduceLE, Int.reduceToNat, Int.reduceEq, Int.reduceAdd, Int.reduceSub, Int.reduceMul, Int.reduceNeg, Nat.reduceMul, Nat.reduceSub, Nat.reduceLeDiff, Nat.reduceLT, Int.reduceGT, Int.reduceBEq, Int.reduceBNe, reduceCtorEq, Nat.reduceAdd, Ins.map, Fr.ev, argFr, argE, binEv, intEv, shEv, strEv, unEv, Fr.mark, evRes, tup, lenD, lookupD, loadD, partD, storeD, cellsD, cellOk, setAt, objNe, objSame, eqEv, readEv, buildD, buildRows, rowsOf, elemsOf]
            · have g3 : ((k : Int) < (i : Int)) = False := eq_false (by omega)
              cases es : (shaB S == shaB T)
              · simp (config := {maxSteps := 1000000}) only [g3, lA, lB, le1, le2, q3, q4, q5, q6, q8_eq, ne, es, q18_eq, n1, n2, n3, n4, n5, n6, tb10_e, tb19_e, Int.natCast_nonneg, Nat.le_refl, Int.le_refl, List.take_succ_cons, List.take_zero, decide_true, decide_false, Bool.and_false, Bool.false_and, zz, zzN, zzF, fltEv, isArithF, ↓reduceIte, Nat.reduceEqDiff, Nat.reduceBEq, Int.reduceLT, Int.reduceLE, Int.reduceToNat, Int.reduceEq, Int.reduceAdd, Int.reduceSub, Int.reduceMul, Int.reduceNeg, Nat.reduceMul, Nat.reduceSub, Nat.reduceLeDiff, Nat.reduceLT, Int.reduceGT, Int.reduceBEq, Int.reduceBNe, reduceCtorEq, Nat.reduceAdd, Ins.map, Fr.ev, argFr, argE, binEv, intEv, shEv, strEv, unEv, Fr.mark, evRes, tup, lenD, lookupD, loadD, partD, storeD, cellsD, cellOk, setAt, objNe, objSame, eqEv, readEv, buildD, buildRows, rowsOf, elemsOf]
              · simp (config := {maxSteps := 1000000}) only [g3, lA, lB, le1, le2, q3, q4, q5, q6, q8_eq, ne, es, q18_eq, n1, n2, n3, n4, n5, n6, tb10_e, tb19_e, Int.natCast_nonneg, Nat.le_refl, Int.le_refl, List.take_succ_cons, List.take_zero, decide_true, decide_false, Bool.and_false, Bool.false_and, zz, zzN, zzF, fltEv, isArithF, ↓reduceIte, Nat.reduceEqDiff, Nat.reduceBEq, Int.reduceLT, Int.reduceLE, Int.reduceToNat, Int.reduceEq, Int.reduceAdd, Int.reduceSub, Int.reduceMul, Int.reduceNeg, Nat.reduceMul, Nat.reduceSub, Nat.reduceLeDiff, Nat.reduceLT, Int.reduceGT, Int.reduceBEq, Int.reduceBNe, reduceCtorEq, Nat.reduceAdd, Ins.map, Fr.ev, argFr, argE, binEv, intEv, shEv, strEv, unEv, Fr.mark, evRes, tup, lenD, lookupD, loadD, partD, storeD, cellsD, cellOk, setAt, objNe, objSame, eqEv, readEv, buildD, buildRows, rowsOf, elemsOf]
          · obtain ⟨h1, h2, h3⟩ := hT rfl
            by_cases c : k < i
            · have g3 : ((k : Int) < (i : Int)) = True := eq_true (by omega)
              have wk : IntKind.i64.wrap ((k : Int) + 1) = ((k + 1 : Nat) : Int) := wrap_succ (by omega)
              have kA : k < A.length := by omega
              have kB : k < B.length := by omega
              obtain ⟨x, hx⟩ : ∃ x, A[k]? = some x := ⟨A[k], List.getElem?_eq_getElem kA⟩
              obtain ⟨y, hy⟩ : ∃ y, B[k]? = some y := ⟨B[k], List.getElem?_eq_getElem kB⟩
              have ex : (encS A)[k]? = some [.str x] := by rw [encS_get, hx]; rfl
              have ey : (encS B)[k]? = some [.str y] := by rw [encS_get, hy]; rfl
              simp (config := {maxSteps := 1000000}) only [g3, wk, lA, lB, ex, ey, n1, n2, n3, n4, n5, n6, tb10_e, tb19_e, Int.natCast_nonneg, Nat.le_refl, Int.le_refl, List.take_succ_cons, List.take_zero, decide_true, decide_false, Bool.and_false, Bool.false_and, zz, zzN, zzF, fltEv, isArithF, ↓reduceIte, Nat.reduceEqDiff, Nat.reduceBEq, Int.reduceLT, Int.reduceLE, Int.reduceToNat, Int.reduceEq, Int.reduceAdd, Int.reduceSub, Int.reduceMul, Int.reduceNeg, Nat.reduceMul, Nat.reduceSub, Nat.reduceLeDiff, Nat.reduceLT, Int.reduceGT, Int.reduceBEq, Int.reduceBNe, reduceCtorEq, Nat.reduceAdd, Ins.map, Fr.ev, argFr, argE, binEv, intEv, shEv, strEv, unEv, Fr.mark, evRes, tup, lenD, lookupD, loadD, partD, storeD, cellsD, cellOk, setAt, objNe, objSame, eqEv, readEv, buildD, buildRows, rowsOf, elemsOf]
              intro _
              refine ⟨by omega, hQ (k + 1, x == y) _ _ ⟨by simp only; omega, fun e => ⟨h1, h2, ?_⟩, fun e he => ?_⟩ (by simp only [Int.natCast_nonneg, Nat.le_refl, Int.le_refl, List.take_succ_cons, List.take_zero, decide_true, decide_false, Bool.and_false, Bool.false_and, zz, zzN, zzF, fltEv, isArithF, ↓reduceIte, Nat.reduceEqDiff, Nat.reduceBEq, Int.reduceLT, Int.reduceLE, Int.reduceToNat, Int.reduceEq, Int.reduceAdd, Int.reduceSub, Int.reduceMul, Int.reduceNeg, Nat.reduceMul, Nat.reduceSub, Nat.reduceLeDiff, Nat.reduceLT, Int.reduceGT, Int.reduceBEq, Int.reduceBNe, reduceCtorEq, Nat.reduceAdd, Ins.map, Fr.ev, argFr, argE, binEv, intEv, shEv, strEv, unEv, Fr.mark, evRes, tup, lenD, lookupD, loadD, partD, storeD, cellsD, cellOk, setAt, objNe, objSame, eqEv, readEv, buildD, buildRows, rowsOf, elemsOf]) (AHeap.sub_refl _) (by simp only; omega)⟩
              · simp only at e ⊢
                rw [List.take_add_one, List.take_add_one, hx, hy, h3, eq_of_beq e]
              · simp only at e
                rw [he.2, hy] at hx
                cases hx
                simp at e
            · have g3 : ((k : Int) < (i : Int)) = False := eq_false (by omega)
              have hAB : A = B := by
                rw [List.take_of_length_le (by omega), List.take_of_length_le (by omega)] at h3
                exact h3
              have hST := eqs h1 hAB
              subst hST
              have eS : (S == S) = true := beq_self_eq_true _
              simp (config := {maxSteps := 1000000}) only [g3, lA, lB, le1, le2, q3, q4, q5, q6, q8_eq, eS, n1, n2, n3, n4, n5, n6, tb10_e, tb19_e, Int.natCast_nonneg, Nat.le_refl, Int.le_refl, List.take_succ_cons, List.take_zero, decide_true, decide_false, Bool.and_false, Bool.false_and, zz, zzN, zzF, fltEv, isArithF, ↓reduceIte, Nat.reduceEqDiff, Nat.reduceBEq, Int.reduceLT, Int.reduceLE, Int.reduceToNat, Int.reduceEq, Int.reduceAdd, Int.reduceSub, Int.reduceMul, Int.reduceNeg, Nat.reduceMul, Nat.reduceSub, Nat.reduceLeDiff, Nat.reduceLT, Int.reduceGT, Int.reduceBEq, Int.reduceBNe, reduceCtorEq, Nat.reduceAdd, Ins.map, Fr.ev, argFr, argE, binEv, intEv, shEv, strEv, unEv, Fr.mark, evRes, tup, lenD, lookupD, loadD, partD, storeD, cellsD, cellOk, setAt, objNe, objSame, eqEv, readEv, buildD, buildRows, rowsOf, elemsOf]
        · simp (config := {maxSteps := 1000000}) only [lb, g1, bp, lA, lB, le1, le2, n1, n2, n3, n4, n5, n6, q1, q2, tb10_e, tb19_e, Int.natCast_nonneg, Nat.le_refl, Int.le_refl, List.take_succ_cons, List.take_zero, decide_true, decide_false, Bool.and_false, Bool.false_and, zz, zzN, zzF, fltEv, isArithF, ↓reduceIte, Nat.reduceEqDiff, Nat.reduceBEq, Int.reduceLT, Int.reduceLE, Int.reduceToNat, Int.reduceEq, Int.reduceAdd, Int.reduceSub, Int.reduceMul, Int.reduceNeg, Nat.reduceMul, Nat.reduceSub, Nat.reduceLeDiff, Nat.reduceLT, Int.reduceGT, Int.reduceBEq, Int.reduceBNe, reduceCtorEq, Nat.reduceAdd, Ins.map, Fr.ev, argFr, argE, binEv, intEv, shEv, strEv, unEv, Fr.mark, evRes, tup, lenD, lookupD, loadD, partD, storeD, cellsD, cellOk, setAt, objNe, objSame, eqEv, readEv, buildD, buildRows, rowsOf, elemsOf]
          intro _
          refine run_loop (X := Nat × Bool) (fun x => [(0, .int .u8 p), (1, .int .u8 q), (7, .row ra (i + 2) 0 i), (8, .row rb (j + 2) 0 j), (11, .str (shaB S)), (12, .str (shaB T)), (13, .bool x.2), (14, .int .i64 x.1)])
            (fun x => (AHeap.emp.set ra (.row 1 (i + 2) (encS A) true)).set rb (.row 1 (j + 2) (encS B) true)) (fun x => i - x.1) (fun x => x.1 ≤ i ∧ (x.2 = true → p = q ∧ i = j ∧ A.take x.1 = B.take x.1) ∧ (x.2 = false → ¬ (p = q ∧ A = B))) (0, false) ?_ ?_ ?_ ?_
          · refine ⟨by omega, by simp, fun _ h => ?_⟩
            obtain ⟨h1, h2⟩ := h
            subst h1 h2
            first | (simp at bp; done) | (have : i = j := by omega
                                          subst this; simp at bl; done)
          · simp only [Int.natCast_nonneg, Nat.le_refl, Int.le_refl, List.take_succ_cons, List.take_zero, decide_true, decide_false, Bool.and_false, Bool.false_and, zz, zzN, zzF, fltEv, isArithF, ↓reduceIte, Nat.reduceEqDiff, Nat.reduceBEq, Int.reduceLT, Int.reduceLE, Int.reduceToNat, Int.reduceEq, Int.reduceAdd, Int.reduceSub, Int.reduceMul, Int.reduceNeg, Nat.reduceMul, Nat.reduceSub, Nat.reduceLeDiff, Nat.reduceLT, Int.reduceGT, Int.reduceBEq, Int.reduceBNe, reduceCtorEq, Nat.reduceAdd, Ins.map, Fr.ev, argFr, argE, binEv, intEv, shEv, strEv, unEv, Fr.mark, evRes, tup, lenD, lookupD, loadD, partD, storeD, cellsD, cellOk, setAt, objNe, objSame, eqEv, readEv, buildD, buildRows, rowsOf, elemsOf]
          · exact AHeap.sub_X (by repeat' first | with_reducible exact AHeap.subX_refl | with_reducible exact AHeap.subX_emp | refine AHeap.subX_l (by simp [n1, n2, n3, n4, n5, n6]) ?_ | refine AHeap.subX_r (by simp [n1, n2, n3, n4, n5, n6]) ?_)
          rintro ⟨k, sm⟩ Q ⟨hk, hT, hF⟩ hQ
          simp only at hk hT hF
          cases sm
          · have fin : S = T → p = q ∧ A = B := inj
            have ne : (S == T) = false := by
              cases e : S == T
              · rfl
              · exact absurd (inj (eq_of_beq e)) (hF rfl)
            by_cases c : k < i
            · have g3 : ((k : Int) < (i : Int)) = True := eq_true (by omega)
              cases es : (shaB S == shaB T)
              · simp (config := {maxSteps := 1000000}) only [g3, lA, lB, le1, le2, q3, q4, q5, q6, q8_eq, ne, es, q18_eq, n1, n2, n3, n4, n5, n6, tb10_e, tb19_e, Int.natCast_nonneg, Nat.le_refl, Int.le_refl, List.take_succ_cons, List.take_zero, decide_true, decide_false, Bool.and_false, Bool.false_and, zz, zzN, zzF, fltEv, isArithF, ↓reduceIte, Nat.reduceEqDiff, Nat.reduceBEq, Int.reduceLT, Int.reduceLE, Int.reduceToNat, Int.reduceEq, Int.reduceAdd, Int.reduceSub, Int.reduceMul, Int.reduceNeg, Nat.reduceMul, Nat.reduceSub, Nat.reduceLeDiff, Nat.reduceLT, Int.reduceGT, Int.reduceBEq, Int.reduceBNe, reduceCtorEq, Nat.reduceAdd, Ins.map, Fr.ev, argFr, argE, binEv, intEv, shEv, strEv, unEv, Fr.mark, evRes, tup, lenD, lookupD, loadD, partD, storeD, cellsD, cellOk, setAt, objNe, objSame, eqEv, readEv, buildD, buildRows, rowsOf, elemsOf]
              · simp (config := {maxSteps := 1000000}) only [g3, lA, lB, le1, le2, q3, q4, q5, q6, q8_eq, ne, es, q18_eq, n1, n2, n3, n4, n5, n6, tb10_e, tb19_e, Int.natCast_nonneg, Nat.le_refl, Int.le_refl, List.take_succ_cons, List.take_zero, decide_true, decide_false, Bool.and_false, Bool.false_and, zz, zzN, zzF, fltEv, isArithF, ↓reduceIte, Nat.reduceEqDiff, Nat.reduceBEq, Int.reduceLT, Int.reduceLE, Int.reduceToNat, Int.reduceEq, Int.reduceAdd, Int.reduceSub, Int.reduceMul, Int.reduceNeg, Nat.reduceMul, Nat.reduceSub, Nat.reduceLeDiff, Nat.reduceLT, Int.reduceGT, Int.reduceBEq, Int.reduceBNe, reduceCtorEq, Nat.reduceAdd, Ins.map, Fr.ev, argFr, argE, binEv, intEv, shEv, strEv, unEv, Fr.mark, evRes, tup, lenD, lookupD, loadD, partD, storeD, cellsD, cellOk, setAt, objNe, objSame, eqEv, readEv, buildD, buildRows, rowsOf, elemsOf]
            · have g3 : ((k : Int) < (i : Int)) = False := eq_false (by omega)
              cases es : (shaB S == shaB T)
              · simp (config := {maxSteps := 1000000}) only [g3, lA, lB, le1, le2, q3, q4, q5, q6, q8_eq, ne, es, q18_eq, n1, n2, n3, n4, n5, n6, tb10_e, tb19_e, Int.natCast_nonneg, Nat.le_refl, Int.le_refl, List.take_succ_cons, List.take_zero, decide_true, decide_false, Bool.and_false, Bool.false_and, zz, zzN, zzF, fltEv, isArithF, ↓reduceIte, Nat.reduceEqDiff, Nat.reduceBEq, Int.reduceLT, Int.reduceLE, Int.reduceToNat, Int.reduceEq, Int.reduceAdd, Int.reduceSub, Int.reduceMul, Int.reduceNeg, Nat.reduceMul, Nat.reduceSub, Nat.reduceLeDiff, Nat.reduceLT, Int.reduceGT, Int.reduceBEq, Int.reduceBNe, reduceCtorEq, Nat.reduceAdd, Ins.map, Fr.ev, argFr, argE, binEv, intEv, shEv, strEv, unEv, Fr.mark, evRes, tup, lenD, lookupD, loadD, partD, storeD, cellsD, cellOk, setAt, objNe, objSame, eqEv, readEv, buildD, buildRows, rowsOf, elemsOf]
              · simp (config := {maxSteps := 1000000}) only [g3, lA, lB, le1, le2, q3, q4, q5, q6, q8_eq, ne, es, q18_eq, n1, n2, n3, n4, n5, n6, tb10_e, tb19_e, Int.natCast_nonneg, Nat.le_refl, Int.le_refl, List.take_succ_cons, List.take_zero, decide_true, decide_false, Bool.and_false, Bool.false_and, zz, zzN, zzF, fltEv, isArithF, ↓reduceIte, Nat.reduceEqDiff, Nat.reduceBEq, Int.reduceLT, Int.reduceLE, Int.reduceToNat, Int.reduceEq, Int.reduceAdd, Int.reduceSub, Int.reduceMul, Int.reduceNeg, Nat.reduceMul, Nat.reduceSub, Nat.reduceLeDiff, Nat.reduceLT, Int.reduceGT, Int.reduceBEq, Int.reduceBNe, reduceCtorEq, Nat.reduceAdd, Ins.map, Fr.ev, argFr, argE, binEv, intEv, shEv, strEv, unEv, Fr.mark, evRes, tup, lenD, lookupD, loadD, partD, storeD, cellsD, cellOk, setAt, objNe, objSame, eqEv, readEv, buildD, buildRows, rowsOf, elemsOf]
          · obtain ⟨h1, h2, h3⟩ := hT rfl
            by_cases c : k < i
            · have g3 : ((k : Int) < (i : Int)) = True := eq_true (by omega)
              have wk : IntKind.i64.wrap ((k : Int) + 1) = ((k + 1 : Nat) : Int) := wrap_succ (by omega)
              have kA : k < A.length := by omega
              have kB : k < B.length := by omega
              obtain ⟨x, hx⟩ : ∃ x, A[k]? = some x := ⟨A[k], List.getElem?_eq_getElem kA⟩
              obtain ⟨y, hy⟩ : ∃ y, B[k]? = some y := ⟨B[k], List.getElem?_eq_getElem kB⟩
              have ex : (encS A)[k]? = some [.str x] := by rw [encS_get, hx]; rfl
              have ey : (encS B)[k]? = some [.str y] := by rw [encS_get, hy]; rfl
              simp (config := {maxSteps := 1000000}) only [g3, wk, lA, lB, ex, ey, n1, n2, n3, n4, n5, n6, tb10_e, tb19_e, Int.natCast_nonneg, Nat.le_refl, Int.le_refl, List.take_succ_cons, List.take_zero, decide_true, decide_false, Bool.and_false, Bool.false_and, zz, zzN, zzF, fltEv, isArithF, ↓reduceIte, Nat.reduceEqDiff, Nat.reduceBEq, Int.reduceLT, Int.reduceLE, Int.reduceToNat, Int.reduceEq, Int.reduceAdd, Int.reduceSub, Int.reduceMul, Int.reduceNeg, Nat.reduceMul, Nat.reduceSub, Nat.reduceLeDiff, Nat.reduceLT, Int.reduceGT, Int.reduceBEq, Int.reduceBNe, reduceCtorEq, Nat.reduceAdd, Ins.map, Fr.ev, argFr, argE, binEv, intEv, shEv, strEv, unEv, Fr.mark, evRes, tup, lenD, lookupD, loadD, partD, storeD, cellsD, cellOk, setAt, objNe, objSame, eqEv, readEv, buildD, buildRows, rowsOf, elemsOf]
              intro _
              refine ⟨by omega, hQ (k + 1, x == y) _ _ ⟨by simp only; omega, fun e => ⟨h1, h2, ?_⟩, fun e he => ?_⟩ (by simp only [Int.natCast_nonneg, Nat.le_refl, Int.le_refl, List.take_succ_cons, List.take_zero, decide_true, decide_false, Bool.and_false, Bool.false_and, zz, zzN, zzF, fltEv, isArithF, ↓reduceIte, Nat.reduceEqDiff, Nat.reduceBEq, Int.reduceLT, Int.reduceLE, Int.reduceToNat, Int.reduceEq, Int.reduceAdd, Int.reduceSub, Int.reduceMul, Int.reduceNeg, Nat.reduceMul, Nat.reduceSub, Nat.reduceLeDiff, Nat.reduceLT, Int.reduceGT, Int.reduceBEq, Int.reduceBNe, reduceCtorEq, Nat.reduceAdd, Ins.map, Fr.ev, argFr, argE, binEv, intEv, shEv, strEv, unEv, Fr.mark, evRes, tup, lenD, lookupD, loadD, partD, storeD, cellsD, cellOk, setAt, objNe, objSame, eqEv, readEv, buildD, buildRows, rowsOf, elemsOf]) (AHeap.sub_refl _) (by simp only; omega)⟩
              · simp only at e ⊢
                rw [List.take_add_one, List.take_add_one, hx, hy, h3, eq_of_beq e]
              · simp only at e
                rw [he.2, hy] at hx
                cases hx
                simp at e
            · have g3 : ((k : Int) < (i : Int)) = False := eq_false (by omega)
              have hAB : A = B := by
                rw [List.take_of_length_le (by omega), List.take_of_length_le (by omega)] at h3
                exact h3
              have hST := eqs h1 hAB
              subst hST
              have eS : (S == S) = true := beq_self_eq_true _
              simp (config := {maxSteps := 1000000}) only [g3, lA, lB, le1, le2, q3, q4, q5, q6, q8_eq, eS, n1, n2, n3, n4, n5, n6, tb10_e, tb19_e, Int.natCast_nonneg, Nat.le_refl, Int.le_refl, List.take_succ_cons, List.take_zero, decide_true, decide_false, Bool.and_false, Bool.false_and, zz, zzN, zzF, fltEv, isArithF, ↓reduceIte, Nat.reduceEqDiff, Nat.reduceBEq, Int.reduceLT, Int.reduceLE, Int.reduceToNat, Int.reduceEq, Int.reduceAdd, Int.reduceSub, Int.reduceMul, Int.reduceNeg, Nat.reduceMul, Nat.reduceSub, Nat.reduceLeDiff, Nat.reduceLT, Int.reduceGT, Int.reduceBEq, Int.reduceBNe, reduceCtorEq, Nat.reduceAdd, Ins.map, Fr.ev, argFr, argE, binEv, intEv, shEv, strEv, unEv, Fr.mark, evRes, tup, lenD, lookupD, loadD, partD, storeD, cellsD, cellOk, setAt, objNe, objSame, eqEv, readEv, buildD, buildRows, rowsOf, elemsOf]
        · simp (config := {maxSteps := 1000000}) only [lb, g1, bp, bl, lA, lB, le1, le2, n1, n2, n3, n4, n5, n6, q1, q2, tb10_e, tb19_e, Int.natCast_nonneg, Nat.le_refl, Int.le_refl, List.take_succ_cons, List.take_zero, decide_true, decide_false, Bool.and_false, Bool.false_and, zz, zzN, zzF, fltEv, isArithF, ↓reduceIte, Nat.reduceEqDiff, Nat.reduceBEq, Int.reduceLT, Int.reduceLE, Int.reduceToNat, Int.reduceEq, Int.reduceAdd, Int.reduceSub, Int.reduceMul, Int.reduceNeg, Nat.reduceMul, Nat.reduceSub, Nat.reduceLeDiff, Nat.reduceLT, Int.reduceGT, Int.reduceBEq, Int.reduceBNe, reduceCtorEq, Nat.reduceAdd, Ins.map, Fr.ev, argFr, argE, binEv, intEv, shEv, strEv, unEv, Fr.mark, evRes, tup, lenD, lookupD, loadD, partD, storeD, cellsD, cellOk, setAt, objNe, objSame, eqEv, readEv, buildD, buildRows, rowsOf, elemsOf]
          intro _ _ _
          refine run_loop (X := Nat × Bool) (fun x => [(0, .int .u8 p), (1, .int .u8 q), (7, .row ra (i + 2) 0 i), (8, .row rb (j + 2) 0 j), (11, .str (shaB S)), (12, .str (shaB T)), (13, .bool x.2), (14, .int .i64 x.1)])
            (fun x => (AHeap.emp.set ra (.row 1 (i + 2) (encS A) true)).set rb (.row 1 (j + 2) (encS B) true)) (fun x => i - x.1) (fun x => x.1 ≤ i ∧ (x.2 = true → p = q ∧ i = j ∧ A.take x.1 = B.take x.1) ∧ (x.2 = false → ¬ (p = q ∧ A = B))) (0, false) ?_ ?_ ?_ ?_
          · refine ⟨by omega, by simp, fun _ h => ?_⟩
            obtain ⟨h1, h2⟩ := h
            subst h1 h2
            first | (simp at bp; done) | (have : i = j := by omega
                                          subst this; simp at bl; done)
          · simp only [Int.natCast_nonneg, Nat.le_refl, Int.le_refl, List.take_succ_cons, List.take_zero, decide_true, decide_false, Bool.and_false, Bool.false_and, zz, zzN, zzF, fltEv, isArithF, ↓reduceIte, Nat.reduceEqDiff, Nat.reduceBEq, Int.reduceLT, Int.reduceLE, Int.reduceToNat, Int.reduceEq, Int.reduceAdd, Int.reduceSub, Int.reduceMul, Int.reduceNeg, Nat.reduceMul, Nat.reduceSub, Nat.reduceLeDiff, Nat.reduceLT, Int.reduceGT, Int.reduceBEq, Int.reduceBNe, reduceCtorEq, Nat.reduceAdd, Ins.map, Fr.ev, argFr, argE, binEv, intEv, shEv, strEv, unEv, Fr.mark, evRes, tup, lenD, lookupD, loadD, partD, storeD, cellsD, cellOk, setAt, objNe, objSame, eqEv, readEv, buildD, buildRows, rowsOf, elemsOf]
          · exact AHeap.sub_X (by repeat' first | with_reducible exact AHeap.subX_refl | with_reducible exact AHeap.subX_emp | refine AHeap.subX_l (by simp [n1, n2, n3, n4, n5, n6]) ?_ | refine AHeap.subX_r (by simp [n1, n2, n3, n4, n5, n6]) ?_)
          rintro ⟨k, sm⟩ Q ⟨hk, hT, hF⟩ hQ
          simp only at hk hT hF
          cases sm
          · have fin : S = T → p = q ∧ A = B := inj
            have ne : (S == T) = false := by
              cases e : S == T
              · rfl
              · exact absurd (inj (eq_of_beq e)) (hF rfl)
            by_cases c : k < i
            · have g3 : ((k : Int) < (i : Int)) = True := eq_true (by omega)
              cases es : (shaB S == shaB T)
              · simp (config := {maxSteps := 1000000}) only [g3, lA, lB, le1, le2, q3, q4, q5, q6, q8_eq, ne, es, q18_eq, n1, n2, n3, n4, n5, n6, tb10_e, tb19_e, Int.natCast_nonneg, Nat.le_refl, Int.le_refl, List.take_succ_cons, List.take_zero, decide_true, decide_false, Bool.and_false, Bool.false_and, zz, zzN, zzF, fltEv, isArithF, ↓reduceIte, Nat.reduceEqDiff, Nat.reduceBEq, Int.reduceLT, Int.reduceLE, Int.reduceToNat, Int.reduceEq, Int.reduceAdd, Int.reduceSub, Int.reduceMul, Int.reduceNeg, Nat.reduceMul, Nat.reduceSub, Nat.reduceLeDiff, Nat.reduceLT, Int.reduceGT, Int.reduceBEq, Int.reduceBNe, reduceCtorEq, Nat.reduceAdd, Ins.map, Fr.ev, argFr, argE, binEv, intEv, shEv, strEv, unEv, Fr.mark, evRes, tup, lenD, lookupD, loadD, partD, storeD, cellsD, cellOk, setAt, objNe, objSame, eqEv, readEv, buildD, buildRows, rowsOf, elemsOf]
              · simp (config := {maxSteps := 1000000}) only [g3, lA, lB, le1, le2, q3, q4, q5, q6, q8_eq, ne, es, q18_eq, n1, n2, n3, n4, n5, n6, tb10_e, tb19_e, Int.natCast_nonneg, Nat.le_refl, Int.le_refl, List.take_succ_cons, List.take_zero, decide_true, decide_false, Bool.and_false, Bool.false_and, zz, zzN, zzF, fltEv, isArithF, ↓reduceIte, Nat.reduceEqDiff, Nat.reduceBEq, Int.reduceLT, Int.reduceLE, Int.reduceToNat, Int.reduceEq, Int.reduceAdd, Int.reduceSub, Int.reduceMul, Int.reduceNeg, Nat.reduceMul, Nat.reduceSub, Nat.reduceLeDiff, Nat.reduceLT, Int.reduceGT, Int.reduceBEq, Int.reduceBNe, reduceCtorEq, Nat.reduceAdd, Ins.map, Fr.ev, argFr, argE, binEv, intEv, shEv, strEv, unEv, Fr.mark, evRes, tup, lenD, lookupD, loadD, partD, storeD, cellsD, cellOk, setAt, objNe, objSame, eqEv, readEv, buildD, buildRows, rowsOf, elemsOf]
            · have g3 : ((k : Int) < (i : Int)) = False := eq_false (by omega)
              cases es : (shaB S == shaB T)
              · simp (config := {maxSteps := 1000000}) only [g3, lA, lB, le1, le2, q3, q4, q5, q6, q8_eq, ne, es, q18_eq, n1, n2, n3, n4, n5, n6, tb10_e, tb19_e, Int.natCast_nonneg, Nat.le_refl, Int.le_refl, List.take_succ_cons, List.take_zero, decide_true, decide_false, Bool.and_false, Bool.false_and, zz, zzN, zzF, fltEv, isArithF, ↓reduceIte, Nat.reduceEqDiff, Nat.reduceBEq, Int.reduceLT, Int.reduceLE, Int.reduceToNat, Int.reduceEq, Int.reduceAdd, Int.reduceSub, Int.reduceMul, Int.reduceNeg, Nat.reduceMul, Nat.reduceSub, Nat.reduceLeDiff, Nat.reduceLT, Int.reduceGT, Int.reduceBEq, Int.reduceBNe, reduceCtorEq, Nat.reduceAdd, Ins.map, Fr.ev, argFr, argE, binEv, intEv, shEv, strEv, unEv, Fr.mark, evRes, tup, lenD, lookupD, loadD, partD, storeD, cellsD, cellOk, setAt, objNe, objSame, eqEv, readEv, buildD, buildRows, rowsOf, elemsOf]
              · simp (config := {maxSteps := 1000000}) only [g3, lA, lB, le1, le2, q3, q4, q5, q6, q8_eq, ne, es, q18_eq, n1, n2, n3, n4, n5, n6, tb10_e, tb19_e, Int.natCast_nonneg, Nat.le_refl, Int.le_refl, List.take_succ_cons, List.take_zero, decide_true, decide_false, Bool.and_false, Bool.false_and, zz, zzN, zzF, fltEv, isArithF, ↓reduceIte, Nat.reduceEqDiff, Nat.reduceBEq, Int.reduceLT, Int.reduceLE, Int.reduceToNat, Int.reduceEq, Int.reduceAdd, Int.reduceSub, Int.reduceMul, Int.reduceNeg, Nat.reduceMul, Nat.reduceSub, Nat.reduceLeDiff, Nat.reduceLT, Int.reduceGT, Int.reduceBEq, Int.reduceBNe, reduceCtorEq, Nat.reduceAdd, Ins.map, Fr.ev, argFr, argE, binEv, intEv, shEv, strEv, unEv, Fr.mark, evRes, tup, lenD, lookupD, loadD, partD, storeD, cellsD, cellOk, setAt, objNe, objSame, eqEv, readEv, buildD, buildRows, rowsOf, elemsOf]
          · obtain ⟨h1, h2, h3⟩ := hT rfl
            by_cases c : k < i
            · have g3 : ((k : Int) < (i : Int)) = True := eq_true (by omega)
              have wk : IntKind.i64.wrap ((k : Int) + 1) = ((k + 1 : Nat) : Int) := wrap_succ (by omega)
              have kA : k < A.length := by omega
              have kB : k < B.length := by omega
              obtain ⟨x, hx⟩ : ∃ x, A[k]? = some x := ⟨A[k], List.getElem?_eq_getElem kA⟩
              obtain ⟨y, hy⟩ : ∃ y, B[k]? = some y := ⟨B[k], List.getElem?_eq_getElem kB⟩
              have ex : (encS A)[k]? = some [.str x] := by rw [encS_get, hx]; rfl
              have ey : (encS B)[k]? = some [.str y] := by rw [encS_get, hy]; rfl
              simp (config := {maxSteps := 1000000}) only [g3, wk, lA, lB, ex, ey, n1, n2, n3, n4, n5, n6, tb10_e, tb19_e, Int.natCast_nonneg, Nat.le_refl, Int.le_refl, List.take_succ_cons, List.take_zero, decide_true, decide_false, Bool.and_false, Bool.false_and, zz, zzN, zzF, fltEv, isArithF, ↓reduceIte, Nat.reduceEqDiff, Nat.reduceBEq, Int.reduceLT, Int.reduceLE, Int.reduceToNat, Int.reduceEq, Int.reduceAdd, Int.reduceSub, Int.reduceMul, Int.reduceNeg, Nat.reduceMul, Nat.reduceSub, Nat.reduceLeDiff, Nat.reduceLT, Int.reduceGT, Int.reduceBEq, Int.reduceBNe, reduceCtorEq, Nat.reduceAdd, Ins.map, Fr.ev, argFr, argE, binEv, intEv, shEv, strEv, unEv, Fr.mark, evRes, tup, lenD, lookupD, loadD, partD, storeD, cellsD, cellOk, setAt, objNe, objSame, eqEv, readEv, buildD, buildRows, rowsOf, elemsOf]
              intro _
              refine ⟨by omega, hQ (k + 1, x == y) _ _ ⟨by simp only; omega, fun e => ⟨h1, h2, ?_⟩, fun e he => ?_⟩ (by simp only [Int.natCast_nonneg, Nat.le_refl, Int.le_refl, List.take_succ_cons, List.take_zero, decide_true, decide_false, Bool.and_false, Bool.false_and, zz, zzN, zzF, fltEv, isArithF, ↓reduceIte, Nat.reduceEqDiff, Nat.reduceBEq, Int.reduceLT, Int.reduceLE, Int.reduceToNat, Int.reduceEq, Int.reduceAdd, Int.reduceSub, Int.reduceMul, Int.reduceNeg, Nat.reduceMul, Nat.reduceSub, Nat.reduceLeDiff, Nat.reduceLT, Int.reduceGT, Int.reduceBEq, Int.reduceBNe, reduceCtorEq, Nat.reduceAdd, Ins.map, Fr.ev, argFr, argE, binEv, intEv, shEv, strEv, unEv, Fr.mark, evRes, tup, lenD, lookupD, loadD, partD, storeD, cellsD, cellOk, setAt, objNe, objSame, eqEv, readEv, buildD, buildRows, rowsOf, elemsOf]) (AHeap.sub_refl _) (by simp only; omega)⟩
              · simp only at e ⊢
                rw [List.take_add_one, List.take_add_one, hx, hy, h3, eq_of_beq e]
              · simp only at e
                rw [he.2, hy] at hx
                cases hx
                simp at e
            · have g3 : ((k : Int) < (i : Int)) = False := eq_false (by omega)
              have hAB : A = B := by
                rw [List.take_of_length_le (by omega), List.take_of_length_le (by omega)] at h3
                exact h3
              have hST := eqs h1 hAB
              subst hST
              have eS : (S == S) = true := beq_self_eq_true _
              simp (config := {maxSteps := 1000000}) only [g3, lA, lB, le1, le2, q3, q4, q5, q6, q8_eq, eS, n1, n2, n3, n4, n5, n6, tb10_e, tb19_e, Int.natCast_nonneg, Nat.le_refl, Int.le_refl, List.take_succ_cons, List.take_zero, decide_true, decide_false, Bool.and_false, Bool.false_and, zz, zzN, zzF, fltEv, isArithF, ↓reduceIte, Nat.reduceEqDiff, Nat.reduceBEq, Int.reduceLT, Int.reduceLE, Int.reduceToNat, Int.reduceEq, Int.reduceAdd, Int.reduceSub, Int.reduceMul, Int.reduceNeg, Nat.reduceMul, Nat.reduceSub, Nat.reduceLeDiff, Nat.reduceLT, Int.reduceGT, Int.reduceBEq, Int.reduceBNe, reduceCtorEq, Nat.reduceAdd, Ins.map, Fr.ev, argFr, argE, binEv, intEv, shEv, strEv, unEv, Fr.mark, evRes, tup, lenD, lookupD, loadD, partD, storeD, cellsD, cellOk, setAt, objNe, objSame, eqEv, readEv, buildD, buildRows, rowsOf, elemsOf]
        · simp (config := {maxSteps := 1000000}) only [lb, g1, bp, bl, lA, lB, le1, le2, n1, n2, n3, n4, n5, n6, q1, q2, tb10_e, tb19_e, Int.natCast_nonneg, Nat.le_refl, Int.le_refl, List.take_succ_cons, List.take_zero, decide_true, decide_false, Bool.and_false, Bool.false_and, zz, zzN, zzF, fltEv, isArithF, ↓reduceIte, Nat.reduceEqDiff, Nat.reduceBEq, Int.reduceLT, Int.reduceLE, Int.reduceToNat, Int.reduceEq, Int.reduceAdd, Int.reduceSub, Int.reduceMul, Int.reduceNeg, Nat.reduceMul, Nat.reduceSub, Nat.reduceLeDiff, Nat.reduceLT, Int.reduceGT, Int.reduceBEq, Int.reduceBNe, reduceCtorEq, Nat.reduceAdd, Ins.map, Fr.ev, argFr, argE, binEv, intEv, shEv, strEv, unEv, Fr.mark, evRes, tup, lenD, lookupD, loadD, partD, storeD, cellsD, cellOk, setAt, objNe, objSame, eqEv, readEv, buildD, buildRows, rowsOf, elemsOf]
          intro _ _ _
          refine run_loop (X := Nat × Bool) (fun x => [(0, .int .u8 p), (1, .int .u8 q), (7, .row ra (i + 2) 0 i), (8, .row rb (j + 2) 0 j), (11, .str (shaB S)), (12, .str (shaB T)), (13, .bool x.2), (14, .int .i64 x.1)])
            (fun x => (AHeap.emp.set ra (.row 1 (i + 2) (encS A) true)).set rb (.row 1 (j + 2) (encS B) true)) (fun x => i - x.1) (fun x => x.1 ≤ i ∧ (x.2 = true → p = q ∧ i = j ∧ A.take x.1 = B.take x.1) ∧ (x.2 = false → ¬ (p = q ∧ A = B))) (0, true) ?_ ?_ ?_ ?_
          · refine ⟨by omega, fun _ => ⟨by simpa using bp, by have := eq_of_beq bl; omega, rfl⟩, by simp⟩
          · simp only [Int.natCast_nonneg, Nat.le_refl, Int.le_refl, List.take_succ_cons, List.take_zero, decide_true, decide_false, Bool.and_false, Bool.false_and, zz, zzN, zzF, fltEv, isArithF, ↓reduceIte, Nat.reduceEqDiff, Nat.reduceBEq, Int.reduceLT, Int.reduceLE, Int.reduceToNat, Int.reduceEq, Int.reduceAdd, Int.reduceSub, Int.reduceMul, Int.reduceNeg, Nat.reduceMul, Nat.reduceSub, Nat.reduceLeDiff, Nat.reduceLT, Int.reduceGT, Int.reduceBEq, Int.reduceBNe, reduceCtorEq, Nat.reduceAdd, Ins.map, Fr.ev, argFr, argE, binEv, intEv, shEv, strEv, unEv, Fr.mark, evRes, tup, lenD, lookupD, loadD, partD, storeD, cellsD, cellOk, setAt, objNe, objSame, eqEv, readEv, buildD, buildRows, rowsOf, elemsOf]
          · exact AHeap.sub_X (by repeat' first | with_reducible exact AHeap.subX_refl | with_reducible exact AHeap.subX_emp | refine AHeap.subX_l (by simp [n1, n2, n3, n4, n5, n6]) ?_ | refine AHeap.subX_r (by simp [n1, n2, n3, n4, n5, n6]) ?_)
          rintro ⟨k, sm⟩ Q ⟨hk, hT, hF⟩ hQ
          simp only at hk hT hF
          cases sm
          · have fin : S = T → p = q ∧ A = B := inj
            have ne : (S == T) = false := by
              cases e : S == T
              · rfl
              · exact absurd (inj (eq_of_beq e)) (hF rfl)
            by_cases c : k < i
            · have g3 : ((k : Int) < (i : Int)) = True := eq_true (by omega)
              cases es : (shaB S == shaB T)
              · simp (config := {maxSteps := 1000000}) only [g3, lA, lB, le1, le2, q3, q4, q5, q6, q8_eq, ne, es, q18_eq, n1, n2, n3, n4, n5, n6, tb10_e, tb19_e, Int.natCast_nonneg, Nat.le_refl, Int.le_refl, List.take_succ_cons, List.take_zero, decide_true, decide_false, Bool.and_false, Bool.false_and, zz, zzN, zzF, fltEv, isArithF, ↓reduceIte, Nat.reduceEqDiff, Nat.reduceBEq, Int.reduceLT, Int.reduceLE, Int.reduceToNat, Int.reduceEq, Int.reduceAdd, Int.reduceSub, Int.reduceMul, Int.reduceNeg, Nat.reduceMul, Nat.reduceSub, Nat.reduceLeDiff, Nat.reduceLT, Int.reduceGT, Int.reduceBEq, Int.reduceBNe, reduceCtorEq, Nat.reduceAdd, Ins.map, Fr.ev, argFr, argE, binEv, intEv, shEv, strEv, unEv, Fr.mark, evRes, tup, lenD, lookupD, loadD, partD, storeD, cellsD, cellOk, setAt, objNe, objSame, eqEv, readEv, buildD, buildRows, rowsOf, elemsOf]
              · simp (config := {maxSteps := 1000000}) only [g3, lA, lB, le1, le2, q3, q4, q5, q6, q8_eq, ne, es, q18_eq, n1, n2, n3, n4, n5, n6, tb10_e, tb19_e, Int.natCast_nonneg, Nat.le_refl, Int.le_refl, List.take_succ_cons, List.take_zero, decide_true, decide_false, Bool.and_false, Bool.false_and, zz, zzN, zzF, fltEv, isArithF, ↓reduceIte, Nat.reduceEqDiff, Nat.reduceBEq, Int.reduceLT, Int.reduceLE, Int.reduceToNat, Int.reduceEq, Int.reduceAdd, Int.reduceSub, Int.reduceMul, Int.reduceNeg, Nat.reduceMul, Nat.reduceSub, Nat.reduceLeDiff, Nat.reduceLT, Int.reduceGT, Int.reduceBEq, Int.reduceBNe, reduceCtorEq, Nat.reduceAdd, Ins.map, Fr.ev, argFr, argE, binEv, intEv, shEv, strEv, unEv, Fr.mark, evRes, tup, lenD, lookupD, loadD, partD, storeD, cellsD, cellOk, setAt, objNe, objSame, eqEv, readEv, buildD, buildRows, rowsOf, elemsOf]
            · have g3 : ((k : Int) < (i : Int)) = False := eq_false (by omega)
              cases es : (shaB S == shaB T)
              · simp (config := {maxSteps := 1000000}) only [g3, lA, lB, le1, le2, q3, q4, q5, q6, q8_eq, ne, es, q18_eq, n1, n2, n3, n4, n5, n6, tb10_e, tb19_e, Int.natCast_nonneg, Nat.le_refl, Int.le_refl, List.take_succ_cons, List.take_zero, decide_true, decide_false, Bool.and_false, Bool.false_and, zz, zzN, zzF, fltEv, isArithF, ↓reduceIte, Nat.reduceEqDiff, Nat.reduceBEq, Int.reduceLT, Int.reduceLE, Int.reduceToNat, Int.reduceEq, Int.reduceAdd, Int.reduceSub, Int.reduceMul, Int.reduceNeg, Nat.reduceMul, Nat.reduceSub, Nat.reduceLeDiff, Nat.reduceLT, Int.reduceGT, Int.reduceBEq, Int.reduceBNe, reduceCtorEq, Nat.reduceAdd, Ins.map, Fr.ev, argFr, argE, binEv, intEv, shEv, strEv, unEv, Fr.mark, evRes, tup, lenD, lookupD, loadD, partD, storeD, cellsD, cellOk, setAt, objNe, objSame, eqEv, readEv, buildD, buildRows, rowsOf, elemsOf]
              · simp (config := {maxSteps := 1000000}) only [g3, lA, lB, le1, le2, q3, q4, q5, q6, q8_eq, ne, es, q18_eq, n1, n2, n3, n4, n5, n6, tb10_e, tb19_e, Int.natCast_nonneg, Nat.le_refl, Int.le_refl, List.take_succ_cons, List.take_zero, decide_true, decide_false, Bool.and_false, Bool.false_and, zz, zzN, zzF, fltEv, isArithF, ↓reduceIte, Nat.reduceEqDiff, Nat.reduceBEq, Int.reduceLT, Int.reduceLE, Int.reduceToNat, Int.reduceEq, Int.reduceAdd, Int.reduceSub, Int.reduceMul, Int.reduceNeg, Nat.reduceMul, Nat.reduceSub, Nat.reduceLeDiff, Nat.reduceLT, Int.reduceGT, Int.reduceBEq, Int.reduceBNe, reduceCtorEq, Nat.reduceAdd, Ins.map, Fr.ev, argFr, argE, binEv, intEv, shEv, strEv, unEv, Fr.mark, evRes, tup, lenD, lookupD, loadD, partD, storeD, cellsD, cellOk, setAt, objNe, objSame, eqEv, readEv, buildD, buildRows, rowsOf, elemsOf]
          · obtain ⟨h1, h2, h3⟩ := hT rfl
            by_cases c : k < i
            · have g3 : ((k : Int) < (i : Int)) = True := eq_true (by omega)
              have wk : IntKind.i64.wrap ((k : Int) + 1) = ((k + 1 : Nat) : Int) := wrap_succ (by omega)
              have kA : k < A.length := by omega
              have kB : k < B.length := by omega
              obtain ⟨x, hx⟩ : ∃ x, A[k]? = some x := ⟨A[k], List.getElem?_eq_getElem kA⟩
              obtain ⟨y, hy⟩ : ∃ y, B[k]? = some y := ⟨B[k], List.getElem?_eq_getElem kB⟩
              have ex : (encS A)[k]? = some [.str x] := by rw [encS_get, hx]; rfl
              have ey : (encS B)[k]? = some [.str y] := by rw [encS_get, hy]; rfl
              simp (config := {maxSteps := 1000000}) only [g3, wk, lA, lB, ex, ey, n1, n2, n3, n4, n5, n6, tb10_e, tb19_e, Int.natCast_nonneg, Nat.le_refl, Int.le_refl, List.take_succ_cons, List.take_zero, decide_true, decide_false, Bool.and_false, Bool.false_and, zz, zzN, zzF, fltEv, isArithF, ↓reduceIte, Nat.reduceEqDiff, Nat.reduceBEq, Int.reduceLT, Int.reduceLE, Int.reduceToNat, Int.reduceEq, Int.reduceAdd, Int.reduceSub, Int.reduceMul, Int.reduceNeg, Nat.reduceMul, Nat.reduceSub, Nat.reduceLeDiff, Nat.reduceLT, Int.reduceGT, Int.reduceBEq, Int.reduceBNe, reduceCtorEq, Nat.reduceAdd, Ins.map, Fr.ev, argFr, argE, binEv, intEv, shEv, strEv, unEv, Fr.mark, evRes, tup, lenD, lookupD, loadD, partD, storeD, cellsD, cellOk, setAt, objNe, objSame, eqEv, readEv, buildD, buildRows, rowsOf, elemsOf]
              intro _
              refine ⟨by omega, hQ (k + 1, x == y) _ _ ⟨by simp only; omega, fun e => ⟨h1, h2, ?_⟩, fun e he => ?_⟩ (by simp only [Int.natCast_nonneg, Nat.le_refl, Int.le_refl, List.take_succ_cons, List.take_zero, decide_true, decide_false, Bool.and_false, Bool.false_and, zz, zzN, zzF, fltEv, isArithF, ↓reduceIte, Nat.reduceEqDiff, Nat.reduceBEq, Int.reduceLT, Int.reduceLE, Int.reduceToNat, Int.reduceEq, Int.reduceAdd, Int.reduceSub, Int.reduceMul, Int.reduceNeg, Nat.reduceMul, Nat.reduceSub, Nat.reduceLeDiff, Nat.reduceLT, Int.reduceGT, Int.reduceBEq, Int.reduceBNe, reduceCtorEq, Nat.reduceAdd, Ins.map, Fr.ev, argFr, argE, binEv, intEv, shEv, strEv, unEv, Fr.mark, evRes, tup, lenD, lookupD, loadD, partD, storeD, cellsD, cellOk, setAt, objNe, objSame, eqEv, readEv, buildD, buildRows, rowsOf, elemsOf]) (AHeap.sub_refl _) (by simp only; omega)⟩
              · simp only at e ⊢
                rw [List.take_add_one, List.take_add_one, hx, hy, h3, eq_of_beq e]
              · simp only at e
                rw [he.2, hy] at hx
                cases hx
                simp at e
            · have g3 : ((k : Int) < (i : Int)) = False := eq_false (by omega)
              have hAB : A = B := by
                rw [List.take_of_length_le (by omega), List.take_of_length_le (by omega)] at h3
                exact h3
              have hST := eqs h1 hAB
              subst hST
              have eS : (S == S) = true := beq_self_eq_true _
              simp (config := {maxSteps := 1000000}) only [g3, lA, lB, le1, le2, q3, q4, q5, q6, q8_eq, eS, n1, n2, n3, n4, n5, n6, tb10_e, tb19_e, Int.natCast_nonneg, Nat.le_refl, Int.le_refl, List.take_succ_cons, List.take_zero, decide_true, decide_false, Bool.and_false, Bool.false_and, zz, zzN, zzF, fltEv, isArithF, ↓reduceIte, Nat.reduceEqDiff, Nat.reduceBEq, Int.reduceLT, Int.reduceLE, Int.reduceToNat, Int.reduceEq, Int.reduceAdd, Int.reduceSub, Int.reduceMul, Int.reduceNeg, Nat.reduceMul, Nat.reduceSub, Nat.reduceLeDiff, Nat.reduceLT, Int.reduceGT, Int.reduceBEq, Int.reduceBNe, reduceCtorEq, Nat.reduceAdd, Ins.map, Fr.ev, argFr, argE, binEv, intEv, shEv, strEv, unEv, Fr.mark, evRes, tup, lenD, lookupD, loadD, partD, storeD, cellsD, cellOk, setAt, objNe, objSame, eqEv, readEv, buildD, buildRows, rowsOf, elemsOf]
theorem shaParts_i (p q : Int) (l : List (List (List UInt8))) (hp : (Lit.int .u8 p).wf = true) (hq : (Lit.int .u8 q).wf = true) (hl : l.length = 2) : PCall Try.prog 7 [.int .u8 p, .int .u8 q, .agg (l.map fun x => .sl (x.map fun s => [.str s]))] (.bool true) := by
  match l, hl with
  | [a, b], _ =>
    have h1 := bounds_u8 hp
    have h2 := bounds_u8 hq
    exact shaParts_c p q a b h1 h2
end Go.Proofs.Ytiilnakenlegmaa.Zz
