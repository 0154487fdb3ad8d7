/- The law of signs. -/
import Derived.Test.YtpagdhbmbnoddaaGreatDoorZC22
set_option linter.unnecessarySimpa false
set_option linter.unusedVariables false
set_option linter.unusedSimpArgs false
set_option maxRecDepth 100000
namespace Go.Proofs.YtpagdhbmbnoddaaGreatDoor.Zz
noncomputable section
def p6c : Plan := ⟨⟨[], [], [(23, 2), (23, 8), (23, 14)], [], [], []⟩, [(23, [0, 1, 2, 3, 4, 5, 6, 7, 8, 9, 10, 11, 12, 13, 14, 15, 16, 17, 18, 19, 20, 21, 22, 23, 24, 25, 26, 27, 28, 29])], [], false⟩
def s6c : Stm :=
 .seq (.ops [⟨.mov (.c (.bool false)), some 6, none, true⟩])
 (.seq (.ops [⟨.buildSlice 1 [(.str [])] 13 [(0, (.c (.str [43]))), (1, (.c (.str [45]))), (2, (.c (.str [42]))), (3, (.c (.str [47]))), (4, (.c (.str [37]))), (5, (.c (.str [60]))), (6, (.c (.str [60, 61]))), (7, (.c (.str [62]))), (8, (.c (.str [62, 61]))), (9, (.c (.str [61, 61]))), (10, (.c (.str [33, 61]))), (11, (.c (.str [38, 38]))), (12, (.c (.str [124, 124])))] false, some 20, none, true⟩,
 ⟨.mov (.t 20), some 7, none, true⟩])
 (.seq (.ops [⟨.buildSlice 1 [(.str [])] 3 [(0, (.c (.str [105, 110, 116]))), (1, (.c (.str [102, 108, 111, 97, 116]))), (2, (.c (.str [98, 111, 111, 108])))] false, some 21, none, true⟩,
 ⟨.mov (.t 21), some 8, none, true⟩])
 (.seq (.ops [⟨.mov (.t 7), some 22, none, true⟩,
 ⟨.mov (.t 0), some 23, none, true⟩,
 ⟨.bin .rem (.t 23) (.c (.int .i64 13)), some 24, none, true⟩,
 ⟨.bin .add (.t 24) (.c (.int .i64 13)), some 25, none, true⟩,
 ⟨.bin .rem (.t 25) (.c (.int .i64 13)), some 26, none, true⟩,
 ⟨.indexAddrS 1 (.t 22) (.t 26), some 27, none, false⟩,
 ⟨.load none (.t 27), some 28, none, false⟩,
 ⟨.mov (.t 1), some 29, none, true⟩,
 ⟨.bin .rem (.t 29) (.c (.int .i64 3)), some 30, none, true⟩,
 ⟨.bin .add (.t 30) (.c (.int .i64 3)), some 31, none, true⟩,
 ⟨.bin .rem (.t 31) (.c (.int .i64 3)), some 32, none, true⟩,
 ⟨.mov (.t 2), some 33, none, true⟩,
 ⟨.bin .rem (.t 33) (.c (.int .i64 3)), some 34, none, true⟩,
 ⟨.bin .add (.t 34) (.c (.int .i64 3)), some 35, none, true⟩,
 ⟨.bin .rem (.t 35) (.c (.int .i64 3)), some 36, none, true⟩,
 ⟨.mov (.t 28), some 9, none, true⟩,
 ⟨.mov (.t 32), some 10, none, true⟩,
 ⟨.mov (.t 36), some 11, none, true⟩])
 (.seq (.ops [⟨.mov (.t 10), some 37, none, true⟩,
 ⟨.mov (.t 37), some 12, none, true⟩])
 (.seq (.seq (.ops [⟨.mov (.t 9), some 38, none, true⟩,
 ⟨.bin .neq (.t 38) (.c (.str [43])), some 39, none, true⟩,
 ⟨.mov (.t 39), some 40, none, true⟩,
 ⟨.mov (.t 9), some 41, (some (40, true)), true⟩,
 ⟨.bin .neq (.t 41) (.c (.str [45])), some 42, (some (40, true)), true⟩,
 ⟨.pick (.t 40) (.t 42) (.c (.bool false)), some 43, none, true⟩,
 ⟨.mov (.t 43), some 44, none, true⟩,
 ⟨.mov (.t 9), some 45, (some (44, true)), true⟩,
 ⟨.bin .neq (.t 45) (.c (.str [42])), some 46, (some (44, true)), true⟩,
 ⟨.pick (.t 44) (.t 46) (.c (.bool false)), some 47, none, true⟩,
 ⟨.mov (.t 47), some 48, none, true⟩,
 ⟨.mov (.t 9), some 49, (some (48, true)), true⟩,
 ⟨.bin .neq (.t 49) (.c (.str [47])), some 50, (some (48, true)), true⟩,
 ⟨.pick (.t 48) (.t 50) (.c (.bool false)), some 51, none, true⟩,
 ⟨.mov (.t 51), some 52, none, true⟩,
 ⟨.mov (.t 9), some 53, (some (52, true)), true⟩,
 ⟨.bin .neq (.t 53) (.c (.str [37])), some 54, (some (52, true)), true⟩,
 ⟨.pick (.t 52) (.t 54) (.c (.bool false)), some 55, none, true⟩])
 (.cond (.t 55)
 (.ops [⟨.mov (.c (.int .i64 2)), some 12, none, true⟩])
 (.skip)))
 (.seq (.ops [⟨.mov (.t 10), some 56, none, true⟩,
 ⟨.mov (.t 11), some 57, none, true⟩,
 ⟨.bin .eql (.t 56) (.t 57), some 58, none, true⟩,
 ⟨.mov (.t 58), some 13, none, true⟩])
 (.seq (.seq (.ops [⟨.mov (.t 9), some 59, none, true⟩])
 (.block 0 (.seq (.seq (.ops [⟨.bin .eql (.t 59) (.c (.str [43])), some 61, none, true⟩,
 ⟨.mov (.t 61), some 60, none, true⟩])
 (.cond (.t 60)
 (.skip)
 (.seq (.ops [⟨.bin .eql (.t 59) (.c (.str [45])), some 62, none, true⟩,
 ⟨.mov (.t 62), some 60, none, true⟩])
 (.cond (.t 60)
 (.skip)
 (.seq (.ops [⟨.bin .eql (.t 59) (.c (.str [42])), some 63, none, true⟩,
 ⟨.mov (.t 63), some 60, none, true⟩])
 (.cond (.t 60)
 (.skip)
 (.seq (.ops [⟨.bin .eql (.t 59) (.c (.str [47])), some 64, none, true⟩,
 ⟨.mov (.t 64), some 60, none, true⟩])
 (.cond (.t 60)
 (.skip)
 (.seq (.ops [⟨.bin .eql (.t 59) (.c (.str [60])), some 65, none, true⟩,
 ⟨.mov (.t 65), some 60, none, true⟩])
 (.cond (.t 60)
 (.skip)
 (.seq (.ops [⟨.bin .eql (.t 59) (.c (.str [60, 61])), some 66, none, true⟩,
 ⟨.mov (.t 66), some 60, none, true⟩])
 (.cond (.t 60)
 (.skip)
 (.seq (.ops [⟨.bin .eql (.t 59) (.c (.str [62])), some 67, none, true⟩,
 ⟨.mov (.t 67), some 60, none, true⟩])
 (.cond (.t 60)
 (.skip)
 (.ops [⟨.bin .eql (.t 59) (.c (.str [62, 61])), some 68, none, true⟩,
 ⟨.mov (.t 68), some 60, none, true⟩])))))))))))))))
 (.cond (.t 60)
 (.ops [⟨.mov (.t 13), some 69, none, true⟩,
 ⟨.mov (.t 69), some 70, none, true⟩,
 ⟨.mov (.t 10), some 71, (some (70, true)), true⟩,
 ⟨.bin .lss (.t 71) (.c (.int .i64 2)), some 72, (some (70, true)), true⟩,
 ⟨.pick (.t 70) (.t 72) (.c (.bool false)), some 73, none, true⟩,
 ⟨.mov (.t 73), some 13, none, true⟩])
 (.seq (.ops [⟨.bin .eql (.t 59) (.c (.str [37])), some 75, none, true⟩,
 ⟨.mov (.t 75), some 74, none, true⟩])
 (.cond (.t 74)
 (.ops [⟨.mov (.t 13), some 76, none, true⟩,
 ⟨.mov (.t 76), some 77, none, true⟩,
 ⟨.mov (.t 10), some 78, (some (77, true)), true⟩,
 ⟨.bin .eql (.t 78) (.c (.int .i64 0)), some 79, (some (77, true)), true⟩,
 ⟨.pick (.t 77) (.t 79) (.c (.bool false)), some 80, none, true⟩,
 ⟨.mov (.t 80), some 13, none, true⟩])
 (.seq (.seq (.ops [⟨.bin .eql (.t 59) (.c (.str [38, 38])), some 82, none, true⟩,
 ⟨.mov (.t 82), some 81, none, true⟩])
 (.cond (.t 81)
 (.skip)
 (.ops [⟨.bin .eql (.t 59) (.c (.str [124, 124])), some 83, none, true⟩,
 ⟨.mov (.t 83), some 81, none, true⟩])))
 (.cond (.t 81)
 (.ops [⟨.mov (.t 13), some 84, none, true⟩,
 ⟨.mov (.t 84), some 85, none, true⟩,
 ⟨.mov (.t 10), some 86, (some (85, true)), true⟩,
 ⟨.bin .eql (.t 86) (.c (.int .i64 2)), some 87, (some (85, true)), true⟩,
 ⟨.pick (.t 85) (.t 87) (.c (.bool false)), some 88, none, true⟩,
 ⟨.mov (.t 88), some 13, none, true⟩])
 (.skip)))))))))
 (.seq (.opsD 14 [⟨.mov (.t 8), some 90, none, true⟩,
 ⟨.mov (.t 10), some 91, none, true⟩,
 ⟨.indexAddrS 1 (.t 90) (.t 91), some 92, none, false⟩,
 ⟨.load none (.t 92), some 93, none, false⟩,
 ⟨.bin .add (.c (.str [102, 117, 110, 99, 32, 102, 40, 97, 32])) (.t 93), some 94, none, true⟩,
 ⟨.bin .add (.t 94) (.c (.str [44, 32, 98, 32])), some 95, none, true⟩,
 ⟨.mov (.t 8), some 96, none, true⟩,
 ⟨.mov (.t 11), some 97, none, true⟩,
 ⟨.indexAddrS 1 (.t 96) (.t 97), some 98, none, false⟩,
 ⟨.load none (.t 98), some 99, none, false⟩,
 ⟨.bin .add (.t 95) (.t 99), some 100, none, true⟩,
 ⟨.bin .add (.t 100) (.c (.str [41, 32])), some 101, none, true⟩,
 ⟨.mov (.t 8), some 102, none, true⟩,
 ⟨.mov (.t 12), some 103, none, true⟩,
 ⟨.indexAddrS 1 (.t 102) (.t 103), some 104, none, false⟩,
 ⟨.load none (.t 104), some 105, none, false⟩,
 ⟨.bin .add (.t 101) (.t 105), some 106, none, true⟩,
 ⟨.bin .add (.t 106) (.c (.str [32, 123, 32, 114, 101, 116, 117, 114, 110, 32, 97, 32])), some 107, none, true⟩,
 ⟨.mov (.t 9), some 108, none, true⟩,
 ⟨.bin .add (.t 107) (.t 108), some 109, none, true⟩,
 ⟨.bin .add (.t 109) (.c (.str [32, 98, 59, 32, 125])), some 110, none, true⟩,
 ⟨.qcall (.f 7) [(.t 110)], some 111, none, false⟩,
 ⟨.mov (.t 111), some 89, none, true⟩,
 ⟨.extract (.t 89) 0, some 112, none, true⟩,
 ⟨.extract (.t 89) 1, some 113, none, true⟩,
 ⟨.extract (.t 89) 2, some 114, none, true⟩,
 ⟨.alloc [(.int .i64 0), (.int .i64 0), (.str []), (.int .i64 0), .nilsl], some 14, none, false⟩,
 ⟨.store 5 (.t 14) (.t 112), none, none, false⟩,
 ⟨.mov (.t 113), some 15, none, true⟩,
 ⟨.mov (.t 114), some 16, none, true⟩])
 (.seq (.ops [⟨.load (some 5) (.t 14), some 116, none, false⟩,
 ⟨.qcall (.f 14) [(.t 116)], some 117, none, false⟩,
 ⟨.mov (.t 117), some 115, none, true⟩,
 ⟨.extract (.t 115) 0, some 118, none, true⟩,
 ⟨.extract (.t 115) 1, some 119, none, true⟩,
 ⟨.extract (.t 115) 2, some 120, none, true⟩,
 ⟨.alloc [(.int .i64 0), (.int .i64 0), (.str []), (.int .i64 0), .nilsl], some 17, none, false⟩,
 ⟨.store 5 (.t 17) (.t 118), none, none, false⟩,
 ⟨.mov (.t 119), some 18, none, true⟩,
 ⟨.mov (.t 120), some 19, none, true⟩])
 (.seq (.ops [⟨.qcall (.f 15) [], some 121, none, false⟩,
 ⟨.mov (.t 121), some 122, none, true⟩,
 ⟨.mov (.t 16), some 123, (some (122, true)), true⟩,
 ⟨.bin .eql (.t 123) (.c (.int .i64 0)), some 124, (some (122, true)), true⟩,
 ⟨.pick (.t 122) (.t 124) (.c (.bool false)), some 125, none, true⟩,
 ⟨.mov (.t 125), some 126, none, true⟩,
 ⟨.mov (.t 19), some 127, (some (126, true)), true⟩,
 ⟨.bin .eql (.t 127) (.c (.int .i64 0)), some 128, (some (126, true)), true⟩,
 ⟨.mov (.t 13), some 129, (some (126, true)), true⟩,
 ⟨.eql .bool false (.t 128) (.t 129), some 130, (some (126, true)), true⟩,
 ⟨.pick (.t 126) (.t 130) (.c (.bool false)), some 131, none, true⟩,
 ⟨.mov (.t 131), some 132, none, true⟩,
 ⟨.mov (.t 13), some 133, (some (132, true)), true⟩,
 ⟨.mov (.t 133), some 134, (some (132, true)), true⟩,
 ⟨.mov (.t 19), some 135, (some (134, false)), true⟩,
 ⟨.bin .eql (.t 135) (.c (.int .i64 122)), some 136, (some (134, false)), true⟩,
 ⟨.pick (.t 134) (.c (.bool true)) (.t 136), some 137, (some (132, true)), true⟩,
 ⟨.pick (.t 132) (.t 137) (.c (.bool false)), some 138, none, true⟩,
 ⟨.mov (.t 138), some 6, none, true⟩])
 (.ret)))))))))))
theorem st6c : stmOf Tryz.prog 6 p6c = some (s6c, [.tmp 6], 139) := by kernel_rfl
def q15c : List D → Option D
  | [] => some (.bool true)
  | _ => none
theorem q15c_ok (args : List D) (d : D) (h : q15c args = some d) : PCall Tryz.prog 15 args d := by
  unfold q15c at h
  split at h
  · cases h; exact awake12_c
  · cases h
def tk15 : Tab := tk14.addQ 15 q15c
theorem tk15_q (g : FuncId) (args : List D) : tk15.q g args = if g = 15 then q15c args else tk14.q g args := rfl
theorem tk15_a : tk15.a = tk14.a := rfl
theorem tk15_c : tk15.c = tk14.c := rfl
theorem tk15_ok : tk15.ok Tryz.prog := Tab.addQ_ok tk14_ok q15c_ok
theorem tk15_e : type_of% (And.intro (And.intro @tk15_q (And.intro @tk15_a @tk15_c)) @tk14_e) := (And.intro (And.intro @tk15_q (And.intro @tk15_a @tk15_c)) @tk14_e)
theorem pick_range (p m : Int) (h : 0 < m) (hm : m < 1000) : 0 ≤ Int.tmod (Int.tmod p m + m) m ∧ Int.tmod (Int.tmod p m + m) m < m := by
  have h1 := Int.tmod_lt_of_pos p h
  have h2 : -m < Int.tmod p m := by
    have := Int.lt_tmod_of_pos p h
    omega
  have h3 : 0 ≤ Int.tmod p m + m := by omega
  rw [Int.tmod_eq_emod_of_nonneg h3]
  exact ⟨Int.emod_nonneg _ (by omega), Int.emod_lt_of_pos _ h⟩
theorem askE_row {K : D → AHeap → Prop} {h : AHeap} {l : List (List UInt8)} {i : Nat} {x : List UInt8} (e : l[i]? = some x) : askE 1 K h (l.map fun s => [D.str s]) (i : Int) = K (.eptr [.str x] 0) h := by
  have h1 := (List.getElem?_eq_some_iff.1 e).1
  have h2 : (0 ≤ (i : Int) ∧ (i : Int) < ((l.map fun s => [D.str s]).length : Int)) := by rw [List.length_map]; omega
  have h3 : (l.map fun s => [D.str s])[i]? = some [.str x] := by rw [List.getElem?_map, e]; rfl
  simp only [askE, h2, Int.toNat_natCast, h3, Option.some.injEq]
  simp
def tyW (x : Nat) : List UInt8 := typesL.getD x []
theorem tyW_eq (x : Nat) : typesL.getD x [] = tyW x := rfl
theorem type_at {x : Nat} (hx : x < 3) : ∀ (K : D → AHeap → Prop) (h : AHeap), askE 1 K h [[D.str [105, 110, 116]], [D.str [102, 108, 111, 97, 116]], [D.str [98, 111, 111, 108]]] (x : Int) = K (.eptr [.str (tyW x)] 0) h := fun K h => askE_row (l := typesL) (by
  have : typesL.length = 3 := rfl
  rw [tyW, List.getD_eq_getElem?_getD, List.getElem?_eq_getElem (by omega)]; rfl)
theorem type_2 : ∀ (K : D → AHeap → Prop) (h : AHeap), askE 1 K h [[D.str [105, 110, 116]], [D.str [102, 108, 111, 97, 116]], [D.str [98, 111, 111, 108]]] (2 : Int) = K (.eptr [.str (tyW 2)] 0) h := fun K h => type_at (by decide) K h
theorem type_len {x : Nat} (hx : x < 3) : (tyW x).length ≤ 5 := (show ∀ i : Fin 3, (typesL.getD i.1 []).length ≤ 5 by decide) ⟨x, hx⟩
theorem sign_at {i : Nat} {s : List UInt8} (h : signsL[i]? = some s) : ∀ (K : D → AHeap → Prop) (h : AHeap), askE 1 K h [[D.str [43]], [D.str [45]], [D.str [42]], [D.str [47]], [D.str [37]], [D.str [60]], [D.str [60, 61]], [D.str [62]], [D.str [62, 61]], [D.str [61, 61]], [D.str [33, 61]], [D.str [38, 38]], [D.str [124, 124]]] (i : Int) = K (.eptr [.str s] 0) h := fun K hh => askE_row (l := signsL) h
theorem sign_ans {i x y : Nat} {e : Int} (ho : (((e == 0) == signOk i x y) && (signOk i x y || e == 122)) = true) : e = if signOk i x y then 0 else 122 := by
  cases hs : signOk i x y <;> rw [hs] at ho <;> simp at ho
  · simpa using ho.2
  · simpa using ho
theorem beq_cc {a b : UInt8} {l r : List UInt8} : ((a :: l) == (b :: r)) = (a == b && l == r) := rfl
theorem beq_cn {a : UInt8} {l : List UInt8} : ((a :: l) == []) = false := rfl
theorem beq_nc {a : UInt8} {l : List UInt8} : (([] : List UInt8) == a :: l) = false := rfl
theorem beq_nn : (([] : List UInt8) == []) = true := rfl
theorem sign_case {i x y : Nat} (hi : i < 13) (hx : x < 3) (hy : y < 3) : ∃ (nk nt : Int) (ns : List UInt8) (nm : Int) (nl : List Nd) (mk mt : Int) (ms : List UInt8) (mm : Int) (ml : List Nd) (at1 : Int),
    qP60 [.str (signT i x y)] = some (.tuple [.agg [.int .i64 nk, .int .i64 nt, .str ns, .int .i64 nm, .sl (Nd.encs nl)], .int .i64 0, .int .i64 0]) ∧ q14c [.agg [.int .i64 nk, .int .i64 nt, .str ns, .int .i64 nm, .sl (Nd.encs nl)]] = some (.tuple [.agg [.int .i64 mk, .int .i64 mt, .str ms, .int .i64 mm, .sl (Nd.encs ml)], .int .i64 at1, .int .i64 (if signOk i x y then 0 else 122)]) := by
  obtain ⟨n, m, at1, e, hp, hc, ho⟩ := case_of (sign_of hi hx hy)
  have he := sign_ans ho
  subst he
  obtain ⟨nk, nt, ns, nm, nl⟩ := n
  obtain ⟨mk, mt, ms, mm, ml⟩ := m
  simp only [enc_mk] at hp hc
  exact ⟨nk, nt, ns, nm, nl, mk, mt, ms, mm, ml, at1, hp, hc⟩
theorem sign_0 (a b c : Int) (x y : Nat) (hx : x < 3) (hy : y < 3) (ei : (IntKind.i64.wrap (Int.tmod a 13 + 13)).tmod 13 = 0) (ex : (IntKind.i64.wrap (Int.tmod b 3 + 3)).tmod 3 = x) (ey : (IntKind.i64.wrap (Int.tmod c 3 + 3)).tmod 3 = y) : PCall Tryz.prog 6 [.int .i64 a, .int .i64 b, .int .i64 c] (.bool true) := by
  refine PCall.run tk15_ok st6c (by simp) fun E => ?_
  obtain ⟨nk, nt, ns, nm, nl, mk, mt, ms, mm, ml, at1, hp, hc⟩ := sign_case (i := 0) (by decide) hx hy
  have tX := type_at hx
  have tY := type_at hy
  have lx := type_len hx
  have ly := type_len hy
  have lz := type_len (x := 2) (by decide)
  have hS : ∀ (K : D → AHeap → Prop) (h : AHeap), askE 1 K h _ 0 = K (.eptr [.str [43]] 0) h := sign_at (i := 0) rfl
  simp only [signT, tyW_eq, signsL, List.getD_cons_succ, List.getD_cons_zero, List.cons_append, List.nil_append, show 0 < 5 by decide, if_true] at hp
  by_cases hxy : x = y
  · subst hxy
    have g1 : ((x : Int) == (x : Int)) = true := by simp
    by_cases h2 : x < 2
    · have g2 : ((x : Int) < 2) = True := eq_true (by omega)
      rw [show signOk 0 x x = true by simp [signOk, h2]] at hc
      simp only [if_true, Bool.false_eq_true, if_false] at hc
      simp (maxSteps := 1000000) only [s6c, ei, ex, ey, q15c, hp, hc, hS, tX, tY, beq_cc, beq_cn, beq_nc, beq_nn, g1, g2, tk15_e, zzK, seval]
      simp only [List.length_append, List.length_cons, List.length_nil]
      omega
    · have g2 : ((x : Int) < 2) = False := eq_false (by omega)
      rw [show signOk 0 x x = false by simp [signOk, h2]] at hc
      simp only [if_true, Bool.false_eq_true, if_false] at hc
      simp (maxSteps := 1000000) only [s6c, ei, ex, ey, q15c, hp, hc, hS, tX, tY, beq_cc, beq_cn, beq_nc, beq_nn, g1, g2, tk15_e, zzK, seval]
      simp only [List.length_append, List.length_cons, List.length_nil]
      omega
  · have g1 : ((x : Int) == (y : Int)) = false := beq_eq_false_iff_ne.2 (by omega)
    rw [show signOk 0 x y = false by simp [signOk, hxy]] at hc
    simp only [if_true, Bool.false_eq_true, if_false] at hc
    simp (maxSteps := 1000000) only [s6c, ei, ex, ey, q15c, hp, hc, hS, tX, tY, beq_cc, beq_cn, beq_nc, beq_nn, g1, tk15_e, zzK, seval]
    simp only [List.length_append, List.length_cons, List.length_nil]
    omega
theorem sign_1 (a b c : Int) (x y : Nat) (hx : x < 3) (hy : y < 3) (ei : (IntKind.i64.wrap (Int.tmod a 13 + 13)).tmod 13 = 1) (ex : (IntKind.i64.wrap (Int.tmod b 3 + 3)).tmod 3 = x) (ey : (IntKind.i64.wrap (Int.tmod c 3 + 3)).tmod 3 = y) : PCall Tryz.prog 6 [.int .i64 a, .int .i64 b, .int .i64 c] (.bool true) := by
  refine PCall.run tk15_ok st6c (by simp) fun E => ?_
  obtain ⟨nk, nt, ns, nm, nl, mk, mt, ms, mm, ml, at1, hp, hc⟩ := sign_case (i := 1) (by decide) hx hy
  have tX := type_at hx
  have tY := type_at hy
  have lx := type_len hx
  have ly := type_len hy
  have lz := type_len (x := 2) (by decide)
  have hS : ∀ (K : D → AHeap → Prop) (h : AHeap), askE 1 K h _ 1 = K (.eptr [.str [45]] 0) h := sign_at (i := 1) rfl
  simp only [signT, tyW_eq, signsL, List.getD_cons_succ, List.getD_cons_zero, List.cons_append, List.nil_append, show 1 < 5 by decide, if_true] at hp
  by_cases hxy : x = y
  · subst hxy
    have g1 : ((x : Int) == (x : Int)) = true := by simp
    by_cases h2 : x < 2
    · have g2 : ((x : Int) < 2) = True := eq_true (by omega)
      rw [show signOk 1 x x = true by simp [signOk, h2]] at hc
      simp only [if_true, Bool.false_eq_true, if_false] at hc
      simp (maxSteps := 1000000) only [s6c, ei, ex, ey, q15c, hp, hc, hS, tX, tY, beq_cc, beq_cn, beq_nc, beq_nn, g1, g2, tk15_e, zzK, seval]
      simp only [List.length_append, List.length_cons, List.length_nil]
      omega
    · have g2 : ((x : Int) < 2) = False := eq_false (by omega)
      rw [show signOk 1 x x = false by simp [signOk, h2]] at hc
      simp only [if_true, Bool.false_eq_true, if_false] at hc
      simp (maxSteps := 1000000) only [s6c, ei, ex, ey, q15c, hp, hc, hS, tX, tY, beq_cc, beq_cn, beq_nc, beq_nn, g1, g2, tk15_e, zzK, seval]
      simp only [List.length_append, List.length_cons, List.length_nil]
      omega
  · have g1 : ((x : Int) == (y : Int)) = false := beq_eq_false_iff_ne.2 (by omega)
    rw [show signOk 1 x y = false by simp [signOk, hxy]] at hc
    simp only [if_true, Bool.false_eq_true, if_false] at hc
    simp (maxSteps := 1000000) only [s6c, ei, ex, ey, q15c, hp, hc, hS, tX, tY, beq_cc, beq_cn, beq_nc, beq_nn, g1, tk15_e, zzK, seval]
    simp only [List.length_append, List.length_cons, List.length_nil]
    omega
theorem sign_2 (a b c : Int) (x y : Nat) (hx : x < 3) (hy : y < 3) (ei : (IntKind.i64.wrap (Int.tmod a 13 + 13)).tmod 13 = 2) (ex : (IntKind.i64.wrap (Int.tmod b 3 + 3)).tmod 3 = x) (ey : (IntKind.i64.wrap (Int.tmod c 3 + 3)).tmod 3 = y) : PCall Tryz.prog 6 [.int .i64 a, .int .i64 b, .int .i64 c] (.bool true) := by
  refine PCall.run tk15_ok st6c (by simp) fun E => ?_
  obtain ⟨nk, nt, ns, nm, nl, mk, mt, ms, mm, ml, at1, hp, hc⟩ := sign_case (i := 2) (by decide) hx hy
  have tX := type_at hx
  have tY := type_at hy
  have lx := type_len hx
  have ly := type_len hy
  have lz := type_len (x := 2) (by decide)
  have hS : ∀ (K : D → AHeap → Prop) (h : AHeap), askE 1 K h _ 2 = K (.eptr [.str [42]] 0) h := sign_at (i := 2) rfl
  simp only [signT, tyW_eq, signsL, List.getD_cons_succ, List.getD_cons_zero, List.cons_append, List.nil_append, show 2 < 5 by decide, if_true] at hp
  by_cases hxy : x = y
  · subst hxy
    have g1 : ((x : Int) == (x : Int)) = true := by simp
    by_cases h2 : x < 2
    · have g2 : ((x : Int) < 2) = True := eq_true (by omega)
      rw [show signOk 2 x x = true by simp [signOk, h2]] at hc
      simp only [if_true, Bool.false_eq_true, if_false] at hc
      simp (maxSteps := 1000000) only [s6c, ei, ex, ey, q15c, hp, hc, hS, tX, tY, beq_cc, beq_cn, beq_nc, beq_nn, g1, g2, tk15_e, zzK, seval]
      simp only [List.length_append, List.length_cons, List.length_nil]
      omega
    · have g2 : ((x : Int) < 2) = False := eq_false (by omega)
      rw [show signOk 2 x x = false by simp [signOk, h2]] at hc
      simp only [if_true, Bool.false_eq_true, if_false] at hc
      simp (maxSteps := 1000000) only [s6c, ei, ex, ey, q15c, hp, hc, hS, tX, tY, beq_cc, beq_cn, beq_nc, beq_nn, g1, g2, tk15_e, zzK, seval]
      simp only [List.length_append, List.length_cons, List.length_nil]
      omega
  · have g1 : ((x : Int) == (y : Int)) = false := beq_eq_false_iff_ne.2 (by omega)
    rw [show signOk 2 x y = false by simp [signOk, hxy]] at hc
    simp only [if_true, Bool.false_eq_true, if_false] at hc
    simp (maxSteps := 1000000) only [s6c, ei, ex, ey, q15c, hp, hc, hS, tX, tY, beq_cc, beq_cn, beq_nc, beq_nn, g1, tk15_e, zzK, seval]
    simp only [List.length_append, List.length_cons, List.length_nil]
    omega
theorem sign_3 (a b c : Int) (x y : Nat) (hx : x < 3) (hy : y < 3) (ei : (IntKind.i64.wrap (Int.tmod a 13 + 13)).tmod 13 = 3) (ex : (IntKind.i64.wrap (Int.tmod b 3 + 3)).tmod 3 = x) (ey : (IntKind.i64.wrap (Int.tmod c 3 + 3)).tmod 3 = y) : PCall Tryz.prog 6 [.int .i64 a, .int .i64 b, .int .i64 c] (.bool true) := by
  refine PCall.run tk15_ok st6c (by simp) fun E => ?_
  obtain ⟨nk, nt, ns, nm, nl, mk, mt, ms, mm, ml, at1, hp, hc⟩ := sign_case (i := 3) (by decide) hx hy
  have tX := type_at hx
  have tY := type_at hy
  have lx := type_len hx
  have ly := type_len hy
  have lz := type_len (x := 2) (by decide)
  have hS : ∀ (K : D → AHeap → Prop) (h : AHeap), askE 1 K h _ 3 = K (.eptr [.str [47]] 0) h := sign_at (i := 3) rfl
  simp only [signT, tyW_eq, signsL, List.getD_cons_succ, List.getD_cons_zero, List.cons_append, List.nil_append, show 3 < 5 by decide, if_true] at hp
  by_cases hxy : x = y
  · subst hxy
    have g1 : ((x : Int) == (x : Int)) = true := by simp
    by_cases h2 : x < 2
    · have g2 : ((x : Int) < 2) = True := eq_true (by omega)
      rw [show signOk 3 x x = true by simp [signOk, h2]] at hc
      simp only [if_true, Bool.false_eq_true, if_false] at hc
      simp (maxSteps := 1000000) only [s6c, ei, ex, ey, q15c, hp, hc, hS, tX, tY, beq_cc, beq_cn, beq_nc, beq_nn, g1, g2, tk15_e, zzK, seval]
      simp only [List.length_append, List.length_cons, List.length_nil]
      omega
    · have g2 : ((x : Int) < 2) = False := eq_false (by omega)
      rw [show signOk 3 x x = false by simp [signOk, h2]] at hc
      simp only [if_true, Bool.false_eq_true, if_false] at hc
      simp (maxSteps := 1000000) only [s6c, ei, ex, ey, q15c, hp, hc, hS, tX, tY, beq_cc, beq_cn, beq_nc, beq_nn, g1, g2, tk15_e, zzK, seval]
      simp only [List.length_append, List.length_cons, List.length_nil]
      omega
  · have g1 : ((x : Int) == (y : Int)) = false := beq_eq_false_iff_ne.2 (by omega)
    rw [show signOk 3 x y = false by simp [signOk, hxy]] at hc
    simp only [if_true, Bool.false_eq_true, if_false] at hc
    simp (maxSteps := 1000000) only [s6c, ei, ex, ey, q15c, hp, hc, hS, tX, tY, beq_cc, beq_cn, beq_nc, beq_nn, g1, tk15_e, zzK, seval]
    simp only [List.length_append, List.length_cons, List.length_nil]
    omega
theorem sign_4 (a b c : Int) (x y : Nat) (hx : x < 3) (hy : y < 3) (ei : (IntKind.i64.wrap (Int.tmod a 13 + 13)).tmod 13 = 4) (ex : (IntKind.i64.wrap (Int.tmod b 3 + 3)).tmod 3 = x) (ey : (IntKind.i64.wrap (Int.tmod c 3 + 3)).tmod 3 = y) : PCall Tryz.prog 6 [.int .i64 a, .int .i64 b, .int .i64 c] (.bool true) := by
  refine PCall.run tk15_ok st6c (by simp) fun E => ?_
  obtain ⟨nk, nt, ns, nm, nl, mk, mt, ms, mm, ml, at1, hp, hc⟩ := sign_case (i := 4) (by decide) hx hy
  have tX := type_at hx
  have tY := type_at hy
  have lx := type_len hx
  have ly := type_len hy
  have lz := type_len (x := 2) (by decide)
  have hS : ∀ (K : D → AHeap → Prop) (h : AHeap), askE 1 K h _ 4 = K (.eptr [.str [37]] 0) h := sign_at (i := 4) rfl
  simp only [signT, tyW_eq, signsL, List.getD_cons_succ, List.getD_cons_zero, List.cons_append, List.nil_append, show 4 < 5 by decide, if_true] at hp
  by_cases hxy : x = y
  · subst hxy
    have g1 : ((x : Int) == (x : Int)) = true := by simp
    by_cases h2 : x = 0
    · have g2 : ((x : Int) == 0) = true := by simp [h2]
      rw [show signOk 4 x x = true by simp [signOk, h2]] at hc
      simp only [if_true, Bool.false_eq_true, if_false] at hc
      simp (maxSteps := 1000000) only [s6c, ei, ex, ey, q15c, hp, hc, hS, tX, tY, beq_cc, beq_cn, beq_nc, beq_nn, g1, g2, tk15_e, zzK, seval]
      simp only [List.length_append, List.length_cons, List.length_nil]
      omega
    · have g2 : ((x : Int) == 0) = false := beq_eq_false_iff_ne.2 (by omega)
      rw [show signOk 4 x x = false by simp [signOk, h2]] at hc
      simp only [if_true, Bool.false_eq_true, if_false] at hc
      simp (maxSteps := 1000000) only [s6c, ei, ex, ey, q15c, hp, hc, hS, tX, tY, beq_cc, beq_cn, beq_nc, beq_nn, g1, g2, tk15_e, zzK, seval]
      simp only [List.length_append, List.length_cons, List.length_nil]
      omega
  · have g1 : ((x : Int) == (y : Int)) = false := beq_eq_false_iff_ne.2 (by omega)
    rw [show signOk 4 x y = false by simp [signOk, hxy]] at hc
    simp only [if_true, Bool.false_eq_true, if_false] at hc
    simp (maxSteps := 1000000) only [s6c, ei, ex, ey, q15c, hp, hc, hS, tX, tY, beq_cc, beq_cn, beq_nc, beq_nn, g1, tk15_e, zzK, seval]
    simp only [List.length_append, List.length_cons, List.length_nil]
    omega
theorem sign_5 (a b c : Int) (x y : Nat) (hx : x < 3) (hy : y < 3) (ei : (IntKind.i64.wrap (Int.tmod a 13 + 13)).tmod 13 = 5) (ex : (IntKind.i64.wrap (Int.tmod b 3 + 3)).tmod 3 = x) (ey : (IntKind.i64.wrap (Int.tmod c 3 + 3)).tmod 3 = y) : PCall Tryz.prog 6 [.int .i64 a, .int .i64 b, .int .i64 c] (.bool true) := by
  refine PCall.run tk15_ok st6c (by simp) fun E => ?_
  obtain ⟨nk, nt, ns, nm, nl, mk, mt, ms, mm, ml, at1, hp, hc⟩ := sign_case (i := 5) (by decide) hx hy
  have tX := type_at hx
  have tY := type_at hy
  have lx := type_len hx
  have ly := type_len hy
  have lz := type_len (x := 2) (by decide)
  have hS : ∀ (K : D → AHeap → Prop) (h : AHeap), askE 1 K h _ 5 = K (.eptr [.str [60]] 0) h := sign_at (i := 5) rfl
  simp only [signT, tyW_eq, signsL, List.getD_cons_succ, List.getD_cons_zero, List.cons_append, List.nil_append, show ¬ (5 < 5) by decide, if_false] at hp
  by_cases hxy : x = y
  · subst hxy
    have g1 : ((x : Int) == (x : Int)) = true := by simp
    by_cases h2 : x < 2
    · have g2 : ((x : Int) < 2) = True := eq_true (by omega)
      rw [show signOk 5 x x = true by simp [signOk, h2]] at hc
      simp only [if_true, Bool.false_eq_true, if_false] at hc
      simp (maxSteps := 1000000) only [s6c, ei, ex, ey, q15c, hp, hc, hS, tX, tY, type_2, beq_cc, beq_cn, beq_nc, beq_nn, g1, g2, tk15_e, zzK, seval]
      simp only [List.length_append, List.length_cons, List.length_nil]
      omega
    · have g2 : ((x : Int) < 2) = False := eq_false (by omega)
      rw [show signOk 5 x x = false by simp [signOk, h2]] at hc
      simp only [if_true, Bool.false_eq_true, if_false] at hc
      simp (maxSteps := 1000000) only [s6c, ei, ex, ey, q15c, hp, hc, hS, tX, tY, type_2, beq_cc, beq_cn, beq_nc, beq_nn, g1, g2, tk15_e, zzK, seval]
      simp only [List.length_append, List.length_cons, List.length_nil]
      omega
  · have g1 : ((x : Int) == (y : Int)) = false := beq_eq_false_iff_ne.2 (by omega)
    rw [show signOk 5 x y = false by simp [signOk, hxy]] at hc
    simp only [if_true, Bool.false_eq_true, if_false] at hc
    simp (maxSteps := 1000000) only [s6c, ei, ex, ey, q15c, hp, hc, hS, tX, tY, type_2, beq_cc, beq_cn, beq_nc, beq_nn, g1, tk15_e, zzK, seval]
    simp only [List.length_append, List.length_cons, List.length_nil]
    omega
theorem sign_6 (a b c : Int) (x y : Nat) (hx : x < 3) (hy : y < 3) (ei : (IntKind.i64.wrap (Int.tmod a 13 + 13)).tmod 13 = 6) (ex : (IntKind.i64.wrap (Int.tmod b 3 + 3)).tmod 3 = x) (ey : (IntKind.i64.wrap (Int.tmod c 3 + 3)).tmod 3 = y) : PCall Tryz.prog 6 [.int .i64 a, .int .i64 b, .int .i64 c] (.bool true) := by
  refine PCall.run tk15_ok st6c (by simp) fun E => ?_
  obtain ⟨nk, nt, ns, nm, nl, mk, mt, ms, mm, ml, at1, hp, hc⟩ := sign_case (i := 6) (by decide) hx hy
  have tX := type_at hx
  have tY := type_at hy
  have lx := type_len hx
  have ly := type_len hy
  have lz := type_len (x := 2) (by decide)
  have hS : ∀ (K : D → AHeap → Prop) (h : AHeap), askE 1 K h _ 6 = K (.eptr [.str [60, 61]] 0) h := sign_at (i := 6) rfl
  simp only [signT, tyW_eq, signsL, List.getD_cons_succ, List.getD_cons_zero, List.cons_append, List.nil_append, show ¬ (6 < 5) by decide, if_false] at hp
  by_cases hxy : x = y
  · subst hxy
    have g1 : ((x : Int) == (x : Int)) = true := by simp
    by_cases h2 : x < 2
    · have g2 : ((x : Int) < 2) = True := eq_true (by omega)
      rw [show signOk 6 x x = true by simp [signOk, h2]] at hc
      simp only [if_true, Bool.false_eq_true, if_false] at hc
      simp (maxSteps := 1000000) only [s6c, ei, ex, ey, q15c, hp, hc, hS, tX, tY, type_2, beq_cc, beq_cn, beq_nc, beq_nn, g1, g2, tk15_e, zzK, seval]
      simp only [List.length_append, List.length_cons, List.length_nil]
      omega
    · have g2 : ((x : Int) < 2) = False := eq_false (by omega)
      rw [show signOk 6 x x = false by simp [signOk, h2]] at hc
      simp only [if_true, Bool.false_eq_true, if_false] at hc
      simp (maxSteps := 1000000) only [s6c, ei, ex, ey, q15c, hp, hc, hS, tX, tY, type_2, beq_cc, beq_cn, beq_nc, beq_nn, g1, g2, tk15_e, zzK, seval]
      simp only [List.length_append, List.length_cons, List.length_nil]
      omega
  · have g1 : ((x : Int) == (y : Int)) = false := beq_eq_false_iff_ne.2 (by omega)
    rw [show signOk 6 x y = false by simp [signOk, hxy]] at hc
    simp only [if_true, Bool.false_eq_true, if_false] at hc
    simp (maxSteps := 1000000) only [s6c, ei, ex, ey, q15c, hp, hc, hS, tX, tY, type_2, beq_cc, beq_cn, beq_nc, beq_nn, g1, tk15_e, zzK, seval]
    simp only [List.length_append, List.length_cons, List.length_nil]
    omega
theorem sign_7 (a b c : Int) (x y : Nat) (hx : x < 3) (hy : y < 3) (ei : (IntKind.i64.wrap (Int.tmod a 13 + 13)).tmod 13 = 7) (ex : (IntKind.i64.wrap (Int.tmod b 3 + 3)).tmod 3 = x) (ey : (IntKind.i64.wrap (Int.tmod c 3 + 3)).tmod 3 = y) : PCall Tryz.prog 6 [.int .i64 a, .int .i64 b, .int .i64 c] (.bool true) := by
  refine PCall.run tk15_ok st6c (by simp) fun E => ?_
  obtain ⟨nk, nt, ns, nm, nl, mk, mt, ms, mm, ml, at1, hp, hc⟩ := sign_case (i := 7) (by decide) hx hy
  have tX := type_at hx
  have tY := type_at hy
  have lx := type_len hx
  have ly := type_len hy
  have lz := type_len (x := 2) (by decide)
  have hS : ∀ (K : D → AHeap → Prop) (h : AHeap), askE 1 K h _ 7 = K (.eptr [.str [62]] 0) h := sign_at (i := 7) rfl
  simp only [signT, tyW_eq, signsL, List.getD_cons_succ, List.getD_cons_zero, List.cons_append, List.nil_append, show ¬ (7 < 5) by decide, if_false] at hp
  by_cases hxy : x = y
  · subst hxy
    have g1 : ((x : Int) == (x : Int)) = true := by simp
    by_cases h2 : x < 2
    · have g2 : ((x : Int) < 2) = True := eq_true (by omega)
      rw [show signOk 7 x x = true by simp [signOk, h2]] at hc
      simp only [if_true, Bool.false_eq_true, if_false] at hc
      simp (maxSteps := 1000000) only [s6c, ei, ex, ey, q15c, hp, hc, hS, tX, tY, type_2, beq_cc, beq_cn, beq_nc, beq_nn, g1, g2, tk15_e, zzK, seval]
      simp only [List.length_append, List.length_cons, List.length_nil]
      omega
    · have g2 : ((x : Int) < 2) = False := eq_false (by omega)
      rw [show signOk 7 x x = false by simp [signOk, h2]] at hc
      simp only [if_true, Bool.false_eq_true, if_false] at hc
      simp (maxSteps := 1000000) only [s6c, ei, ex, ey, q15c, hp, hc, hS, tX, tY, type_2, beq_cc, beq_cn, beq_nc, beq_nn, g1, g2, tk15_e, zzK, seval]
      simp only [List.length_append, List.length_cons, List.length_nil]
      omega
  · have g1 : ((x : Int) == (y : Int)) = false := beq_eq_false_iff_ne.2 (by omega)
    rw [show signOk 7 x y = false by simp [signOk, hxy]] at hc
    simp only [if_true, Bool.false_eq_true, if_false] at hc
    simp (maxSteps := 1000000) only [s6c, ei, ex, ey, q15c, hp, hc, hS, tX, tY, type_2, beq_cc, beq_cn, beq_nc, beq_nn, g1, tk15_e, zzK, seval]
    simp only [List.length_append, List.length_cons, List.length_nil]
    omega
theorem sign_8 (a b c : Int) (x y : Nat) (hx : x < 3) (hy : y < 3) (ei : (IntKind.i64.wrap (Int.tmod a 13 + 13)).tmod 13 = 8) (ex : (IntKind.i64.wrap (Int.tmod b 3 + 3)).tmod 3 = x) (ey : (IntKind.i64.wrap (Int.tmod c 3 + 3)).tmod 3 = y) : PCall Tryz.prog 6 [.int .i64 a, .int .i64 b, .int .i64 c] (.bool true) := by
  refine PCall.run tk15_ok st6c (by simp) fun E => ?_
  obtain ⟨nk, nt, ns, nm, nl, mk, mt, ms, mm, ml, at1, hp, hc⟩ := sign_case (i := 8) (by decide) hx hy
  have tX := type_at hx
  have tY := type_at hy
  have lx := type_len hx
  have ly := type_len hy
  have lz := type_len (x := 2) (by decide)
  have hS : ∀ (K : D → AHeap → Prop) (h : AHeap), askE 1 K h _ 8 = K (.eptr [.str [62, 61]] 0) h := sign_at (i := 8) rfl
  simp only [signT, tyW_eq, signsL, List.getD_cons_succ, List.getD_cons_zero, List.cons_append, List.nil_append, show ¬ (8 < 5) by decide, if_false] at hp
  by_cases hxy : x = y
  · subst hxy
    have g1 : ((x : Int) == (x : Int)) = true := by simp
    by_cases h2 : x < 2
    · have g2 : ((x : Int) < 2) = True := eq_true (by omega)
      rw [show signOk 8 x x = true by simp [signOk, h2]] at hc
      simp only [if_true, Bool.false_eq_true, if_false] at hc
      simp (maxSteps := 1000000) only [s6c, ei, ex, ey, q15c, hp, hc, hS, tX, tY, type_2, beq_cc, beq_cn, beq_nc, beq_nn, g1, g2, tk15_e, zzK, seval]
      simp only [List.length_append, List.length_cons, List.length_nil]
      omega
    · have g2 : ((x : Int) < 2) = False := eq_false (by omega)
      rw [show signOk 8 x x = false by simp [signOk, h2]] at hc
      simp only [if_true, Bool.false_eq_true, if_false] at hc
      simp (maxSteps := 1000000) only [s6c, ei, ex, ey, q15c, hp, hc, hS, tX, tY, type_2, beq_cc, beq_cn, beq_nc, beq_nn, g1, g2, tk15_e, zzK, seval]
      simp only [List.length_append, List.length_cons, List.length_nil]
      omega
  · have g1 : ((x : Int) == (y : Int)) = false := beq_eq_false_iff_ne.2 (by omega)
    rw [show signOk 8 x y = false by simp [signOk, hxy]] at hc
    simp only [if_true, Bool.false_eq_true, if_false] at hc
    simp (maxSteps := 1000000) only [s6c, ei, ex, ey, q15c, hp, hc, hS, tX, tY, type_2, beq_cc, beq_cn, beq_nc, beq_nn, g1, tk15_e, zzK, seval]
    simp only [List.length_append, List.length_cons, List.length_nil]
    omega
theorem sign_9 (a b c : Int) (x y : Nat) (hx : x < 3) (hy : y < 3) (ei : (IntKind.i64.wrap (Int.tmod a 13 + 13)).tmod 13 = 9) (ex : (IntKind.i64.wrap (Int.tmod b 3 + 3)).tmod 3 = x) (ey : (IntKind.i64.wrap (Int.tmod c 3 + 3)).tmod 3 = y) : PCall Tryz.prog 6 [.int .i64 a, .int .i64 b, .int .i64 c] (.bool true) := by
  refine PCall.run tk15_ok st6c (by simp) fun E => ?_
  obtain ⟨nk, nt, ns, nm, nl, mk, mt, ms, mm, ml, at1, hp, hc⟩ := sign_case (i := 9) (by decide) hx hy
  have tX := type_at hx
  have tY := type_at hy
  have lx := type_len hx
  have ly := type_len hy
  have lz := type_len (x := 2) (by decide)
  have hS : ∀ (K : D → AHeap → Prop) (h : AHeap), askE 1 K h _ 9 = K (.eptr [.str [61, 61]] 0) h := sign_at (i := 9) rfl
  simp only [signT, tyW_eq, signsL, List.getD_cons_succ, List.getD_cons_zero, List.cons_append, List.nil_append, show ¬ (9 < 5) by decide, if_false] at hp
  by_cases hxy : x = y
  · subst hxy
    have g1 : ((x : Int) == (x : Int)) = true := by simp
    rw [show signOk 9 x x = true by simp [signOk]] at hc
    simp only [if_true, Bool.false_eq_true, if_false] at hc
    simp (maxSteps := 1000000) only [s6c, ei, ex, ey, q15c, hp, hc, hS, tX, tY, type_2, beq_cc, beq_cn, beq_nc, beq_nn, g1, tk15_e, zzK, seval]
    simp only [List.length_append, List.length_cons, List.length_nil]
    omega
  · have g1 : ((x : Int) == (y : Int)) = false := beq_eq_false_iff_ne.2 (by omega)
    rw [show signOk 9 x y = false by simp [signOk, hxy]] at hc
    simp only [if_true, Bool.false_eq_true, if_false] at hc
    simp (maxSteps := 1000000) only [s6c, ei, ex, ey, q15c, hp, hc, hS, tX, tY, type_2, beq_cc, beq_cn, beq_nc, beq_nn, g1, tk15_e, zzK, seval]
    simp only [List.length_append, List.length_cons, List.length_nil]
    omega
theorem sign_10 (a b c : Int) (x y : Nat) (hx : x < 3) (hy : y < 3) (ei : (IntKind.i64.wrap (Int.tmod a 13 + 13)).tmod 13 = 10) (ex : (IntKind.i64.wrap (Int.tmod b 3 + 3)).tmod 3 = x) (ey : (IntKind.i64.wrap (Int.tmod c 3 + 3)).tmod 3 = y) : PCall Tryz.prog 6 [.int .i64 a, .int .i64 b, .int .i64 c] (.bool true) := by
  refine PCall.run tk15_ok st6c (by simp) fun E => ?_
  obtain ⟨nk, nt, ns, nm, nl, mk, mt, ms, mm, ml, at1, hp, hc⟩ := sign_case (i := 10) (by decide) hx hy
  have tX := type_at hx
  have tY := type_at hy
  have lx := type_len hx
  have ly := type_len hy
  have lz := type_len (x := 2) (by decide)
  have hS : ∀ (K : D → AHeap → Prop) (h : AHeap), askE 1 K h _ 10 = K (.eptr [.str [33, 61]] 0) h := sign_at (i := 10) rfl
  simp only [signT, tyW_eq, signsL, List.getD_cons_succ, List.getD_cons_zero, List.cons_append, List.nil_append, show ¬ (10 < 5) by decide, if_false] at hp
  by_cases hxy : x = y
  · subst hxy
    have g1 : ((x : Int) == (x : Int)) = true := by simp
    rw [show signOk 10 x x = true by simp [signOk]] at hc
    simp only [if_true, Bool.false_eq_true, if_false] at hc
    simp (maxSteps := 1000000) only [s6c, ei, ex, ey, q15c, hp, hc, hS, tX, tY, type_2, beq_cc, beq_cn, beq_nc, beq_nn, g1, tk15_e, zzK, seval]
    simp only [List.length_append, List.length_cons, List.length_nil]
    omega
  · have g1 : ((x : Int) == (y : Int)) = false := beq_eq_false_iff_ne.2 (by omega)
    rw [show signOk 10 x y = false by simp [signOk, hxy]] at hc
    simp only [if_true, Bool.false_eq_true, if_false] at hc
    simp (maxSteps := 1000000) only [s6c, ei, ex, ey, q15c, hp, hc, hS, tX, tY, type_2, beq_cc, beq_cn, beq_nc, beq_nn, g1, tk15_e, zzK, seval]
    simp only [List.length_append, List.length_cons, List.length_nil]
    omega
theorem sign_11 (a b c : Int) (x y : Nat) (hx : x < 3) (hy : y < 3) (ei : (IntKind.i64.wrap (Int.tmod a 13 + 13)).tmod 13 = 11) (ex : (IntKind.i64.wrap (Int.tmod b 3 + 3)).tmod 3 = x) (ey : (IntKind.i64.wrap (Int.tmod c 3 + 3)).tmod 3 = y) : PCall Tryz.prog 6 [.int .i64 a, .int .i64 b, .int .i64 c] (.bool true) := by
  refine PCall.run tk15_ok st6c (by simp) fun E => ?_
  obtain ⟨nk, nt, ns, nm, nl, mk, mt, ms, mm, ml, at1, hp, hc⟩ := sign_case (i := 11) (by decide) hx hy
  have tX := type_at hx
  have tY := type_at hy
  have lx := type_len hx
  have ly := type_len hy
  have lz := type_len (x := 2) (by decide)
  have hS : ∀ (K : D → AHeap → Prop) (h : AHeap), askE 1 K h _ 11 = K (.eptr [.str [38, 38]] 0) h := sign_at (i := 11) rfl
  simp only [signT, tyW_eq, signsL, List.getD_cons_succ, List.getD_cons_zero, List.cons_append, List.nil_append, show ¬ (11 < 5) by decide, if_false] at hp
  by_cases hxy : x = y
  · subst hxy
    have g1 : ((x : Int) == (x : Int)) = true := by simp
    by_cases h2 : x = 2
    · have g2 : ((x : Int) == 2) = true := by simp [h2]
      rw [show signOk 11 x x = true by simp [signOk, h2]] at hc
      simp only [if_true, Bool.false_eq_true, if_false] at hc
      simp (maxSteps := 1000000) only [s6c, ei, ex, ey, q15c, hp, hc, hS, tX, tY, type_2, beq_cc, beq_cn, beq_nc, beq_nn, g1, g2, tk15_e, zzK, seval]
      simp only [List.length_append, List.length_cons, List.length_nil]
      omega
    · have g2 : ((x : Int) == 2) = false := beq_eq_false_iff_ne.2 (by omega)
      rw [show signOk 11 x x = false by simp [signOk, h2]] at hc
      simp only [if_true, Bool.false_eq_true, if_false] at hc
      simp (maxSteps := 1000000) only [s6c, ei, ex, ey, q15c, hp, hc, hS, tX, tY, type_2, beq_cc, beq_cn, beq_nc, beq_nn, g1, g2, tk15_e, zzK, seval]
      simp only [List.length_append, List.length_cons, List.length_nil]
      omega
  · have g1 : ((x : Int) == (y : Int)) = false := beq_eq_false_iff_ne.2 (by omega)
    rw [show signOk 11 x y = false by simp [signOk, hxy]] at hc
    simp only [if_true, Bool.false_eq_true, if_false] at hc
    simp (maxSteps := 1000000) only [s6c, ei, ex, ey, q15c, hp, hc, hS, tX, tY, type_2, beq_cc, beq_cn, beq_nc, beq_nn, g1, tk15_e, zzK, seval]
    simp only [List.length_append, List.length_cons, List.length_nil]
    omega
theorem sign_12 (a b c : Int) (x y : Nat) (hx : x < 3) (hy : y < 3) (ei : (IntKind.i64.wrap (Int.tmod a 13 + 13)).tmod 13 = 12) (ex : (IntKind.i64.wrap (Int.tmod b 3 + 3)).tmod 3 = x) (ey : (IntKind.i64.wrap (Int.tmod c 3 + 3)).tmod 3 = y) : PCall Tryz.prog 6 [.int .i64 a, .int .i64 b, .int .i64 c] (.bool true) := by
  refine PCall.run tk15_ok st6c (by simp) fun E => ?_
  obtain ⟨nk, nt, ns, nm, nl, mk, mt, ms, mm, ml, at1, hp, hc⟩ := sign_case (i := 12) (by decide) hx hy
  have tX := type_at hx
  have tY := type_at hy
  have lx := type_len hx
  have ly := type_len hy
  have lz := type_len (x := 2) (by decide)
  have hS : ∀ (K : D → AHeap → Prop) (h : AHeap), askE 1 K h _ 12 = K (.eptr [.str [124, 124]] 0) h := sign_at (i := 12) rfl
  simp only [signT, tyW_eq, signsL, List.getD_cons_succ, List.getD_cons_zero, List.cons_append, List.nil_append, show ¬ (12 < 5) by decide, if_false] at hp
  by_cases hxy : x = y
  · subst hxy
    have g1 : ((x : Int) == (x : Int)) = true := by simp
    by_cases h2 : x = 2
    · have g2 : ((x : Int) == 2) = true := by simp [h2]
      rw [show signOk 12 x x = true by simp [signOk, h2]] at hc
      simp only [if_true, Bool.false_eq_true, if_false] at hc
      simp (maxSteps := 1000000) only [s6c, ei, ex, ey, q15c, hp, hc, hS, tX, tY, type_2, beq_cc, beq_cn, beq_nc, beq_nn, g1, g2, tk15_e, zzK, seval]
      simp only [List.length_append, List.length_cons, List.length_nil]
      omega
    · have g2 : ((x : Int) == 2) = false := beq_eq_false_iff_ne.2 (by omega)
      rw [show signOk 12 x x = false by simp [signOk, h2]] at hc
      simp only [if_true, Bool.false_eq_true, if_false] at hc
      simp (maxSteps := 1000000) only [s6c, ei, ex, ey, q15c, hp, hc, hS, tX, tY, type_2, beq_cc, beq_cn, beq_nc, beq_nn, g1, g2, tk15_e, zzK, seval]
      simp only [List.length_append, List.length_cons, List.length_nil]
      omega
  · have g1 : ((x : Int) == (y : Int)) = false := beq_eq_false_iff_ne.2 (by omega)
    rw [show signOk 12 x y = false by simp [signOk, hxy]] at hc
    simp only [if_true, Bool.false_eq_true, if_false] at hc
    simp (maxSteps := 1000000) only [s6c, ei, ex, ey, q15c, hp, hc, hS, tX, tY, type_2, beq_cc, beq_cn, beq_nc, beq_nn, g1, tk15_e, zzK, seval]
    simp only [List.length_append, List.length_cons, List.length_nil]
    omega
theorem signs12_c (a b c : Int) : PCall Tryz.prog 6 [.int .i64 a, .int .i64 b, .int .i64 c] (.bool true) := by
  obtain ⟨i, hi, ei⟩ : ∃ i : Nat, i < 13 ∧ Int.tmod (Int.tmod a 13 + 13) 13 = i := by
    have := pick_range a 13 (by decide) (by decide)
    exact ⟨(Int.tmod (Int.tmod a 13 + 13) 13).toNat, by omega, by omega⟩
  obtain ⟨x, hx, ex⟩ : ∃ i : Nat, i < 3 ∧ Int.tmod (Int.tmod b 3 + 3) 3 = i := by
    have := pick_range b 3 (by decide) (by decide)
    exact ⟨(Int.tmod (Int.tmod b 3 + 3) 3).toNat, by omega, by omega⟩
  obtain ⟨y, hy, ey⟩ : ∃ i : Nat, i < 3 ∧ Int.tmod (Int.tmod c 3 + 3) 3 = i := by
    have := pick_range c 3 (by decide) (by decide)
    exact ⟨(Int.tmod (Int.tmod c 3 + 3) 3).toNat, by omega, by omega⟩
  have ei : (IntKind.i64.wrap (Int.tmod a 13 + 13)).tmod 13 = i := by
    have h1 := Int.tmod_lt_of_pos a (show (0 : Int) < 13 by decide)
    have h2 := Int.lt_tmod_of_pos a (show (0 : Int) < 13 by decide)
    rw [wrap_i64 (by omega) (by omega)]; exact ei
  have ex : (IntKind.i64.wrap (Int.tmod b 3 + 3)).tmod 3 = x := by
    have h1 := Int.tmod_lt_of_pos b (show (0 : Int) < 3 by decide)
    have h2 := Int.lt_tmod_of_pos b (show (0 : Int) < 3 by decide)
    rw [wrap_i64 (by omega) (by omega)]; exact ex
  have ey : (IntKind.i64.wrap (Int.tmod c 3 + 3)).tmod 3 = y := by
    have h1 := Int.tmod_lt_of_pos c (show (0 : Int) < 3 by decide)
    have h2 := Int.lt_tmod_of_pos c (show (0 : Int) < 3 by decide)
    rw [wrap_i64 (by omega) (by omega)]; exact ey
  rcases (by omega : i = 0 ∨ i = 1 ∨ i = 2 ∨ i = 3 ∨ i = 4 ∨ i = 5 ∨ i = 6 ∨ i = 7 ∨ i = 8 ∨ i = 9 ∨ i = 10 ∨ i = 11 ∨ i = 12) with rfl | rfl | rfl | rfl | rfl | rfl | rfl | rfl | rfl | rfl | rfl | rfl | rfl
  · exact sign_0 a b c x y hx hy ei ex ey
  · exact sign_1 a b c x y hx hy ei ex ey
  · exact sign_2 a b c x y hx hy ei ex ey
  · exact sign_3 a b c x y hx hy ei ex ey
  · exact sign_4 a b c x y hx hy ei ex ey
  · exact sign_5 a b c x y hx hy ei ex ey
  · exact sign_6 a b c x y hx hy ei ex ey
  · exact sign_7 a b c x y hx hy ei ex ey
  · exact sign_8 a b c x y hx hy ei ex ey
  · exact sign_9 a b c x y hx hy ei ex ey
  · exact sign_10 a b c x y hx hy ei ex ey
  · exact sign_11 a b c x y hx hy ei ex ey
  · exact sign_12 a b c x y hx hy ei ex ey
end
end Go.Proofs.YtpagdhbmbnoddaaGreatDoor.Zz
