/- Contracts: a row cut at its signs, as a text. -/
import Derived.Test.YtpagdhbmbnoddaaGreatDoorZR1
import Derived.Test.YtpagdhbmbnoddaaGreatDoorZR3
import Derived.Test.YtpagdhbmbnoddaaGreatDoorZP20
set_option linter.unnecessarySimpa false
namespace Go.Proofs.YtpagdhbmbnoddaaGreatDoor.Zz
noncomputable section
set_option linter.unusedVariables false
set_option linter.unusedSimpArgs false
set_option maxRecDepth 20000
def p13q : Plan := ⟨⟨[], [], [(7, 2), (7, 7), (9, 3), (9, 6), (9, 12), (9, 19), (9, 23)], [], [], []⟩, [(7, [0, 1, 2, 3, 5, 6, 7, 8, 4, 9, 10]), (9, [0, 1, 2, 3, 4, 5, 6, 10, 11, 12, 13, 16, 17, 18, 19, 20, 21, 22, 23, 7, 8, 9, 14, 15, 24, 25, 26, 27])], [], false⟩
/-- cupel/cupellaw11.cutAt (2 parameters, 0 captured) -/
def s13q : Stm :=
 .seq (.ops [⟨.mov (.c (.str [])), (some 4), none, true⟩])
 (.seq (.seq (.ops [⟨.mov (.t 1), (some 7), none, true⟩,
 ⟨.len .sl (.t 7), (some 8), none, false⟩,
 ⟨.bin .eql (.t 8) (.c (.int .i64 0)), (some 9), none, true⟩])
 (.cond (.t 9)
 (.seq (.ops [⟨.mov (.t 0), (some 10), none, true⟩,
 ⟨.indexAddrS 1 (.t 10) (.c (.int .i64 0)), (some 11), none, false⟩,
 ⟨.load none (.t 11), (some 12), none, false⟩,
 ⟨.mov (.t 12), (some 4), none, true⟩])
 (.ret))
 (.skip)))
 (.seq (.ops [⟨.mov (.c (.int .i64 0)), (some 5), none, true⟩])
 (.seq (.seq (.ops [⟨.mov (.c (.int .i64 1)), (some 6), none, true⟩])
 (.block 0 (.loop (.seq (.seq (.ops [⟨.mov (.t 6), (some 13), none, true⟩,
 ⟨.mov (.t 1), (some 14), none, true⟩,
 ⟨.len .sl (.t 14), (some 15), none, false⟩,
 ⟨.bin .lss (.t 13) (.t 15), (some 16), none, true⟩])
 (.cond (.t 16)
 (.skip)
 (.exit 0)))
 (.seq (.block 1 (.seq (.opsD [⟨.mov (.t 1), (some 19), none, true⟩,
 ⟨.mov (.t 6), (some 20), none, true⟩,
 ⟨.indexAddrS 1 (.t 19) (.t 20), (some 21), none, false⟩,
 ⟨.load none (.t 21), (some 22), none, false⟩,
 ⟨.mov (.t 1), (some 24), none, true⟩,
 ⟨.mov (.t 5), (some 25), none, true⟩,
 ⟨.indexAddrS 1 (.t 24) (.t 25), (some 26), none, false⟩,
 ⟨.load none (.t 26), (some 27), none, false⟩,
 ⟨.qcall (.f 27) [(.t 22)], (some 23), none, false⟩,
 ⟨.qcall (.f 27) [(.t 27)], (some 28), none, false⟩,
 ⟨.bin .leq (.t 23) (.t 28), (some 29), none, true⟩])
 (.cond (.t 29)
 (.ops [⟨.mov (.t 6), (some 30), none, true⟩,
 ⟨.mov (.t 30), (some 5), none, true⟩])
 (.skip))))
 (.ops [⟨.mov (.t 6), (some 17), none, true⟩,
 ⟨.bin .add (.t 17) (.c (.int .i64 1)), (some 18), none, true⟩,
 ⟨.mov (.t 18), (some 6), none, true⟩]))))))
 (.seq (.opsD [⟨.mov (.t 0), (some 31), none, true⟩,
 ⟨.mov (.t 5), (some 32), none, true⟩,
 ⟨.bin .add (.t 32) (.c (.int .i64 1)), (some 33), none, true⟩,
 ⟨.slice (.sl 1) (.t 31) none (some (.t 33)) none, (some 34), none, false⟩,
 ⟨.mov (.t 1), (some 35), none, true⟩,
 ⟨.mov (.t 5), (some 36), none, true⟩,
 ⟨.slice (.sl 1) (.t 35) none (some (.t 36)) none, (some 37), none, false⟩,
 ⟨.mov (.t 1), (some 41), none, true⟩,
 ⟨.mov (.t 5), (some 42), none, true⟩,
 ⟨.indexAddrS 1 (.t 41) (.t 42), (some 43), none, false⟩,
 ⟨.load none (.t 43), (some 44), none, false⟩,
 ⟨.mov (.t 0), (some 47), none, true⟩,
 ⟨.mov (.t 5), (some 48), none, true⟩,
 ⟨.bin .add (.t 48) (.c (.int .i64 1)), (some 49), none, true⟩,
 ⟨.slice (.sl 1) (.t 47) (some (.t 49)) none none, (some 50), none, false⟩,
 ⟨.mov (.t 1), (some 51), none, true⟩,
 ⟨.mov (.t 5), (some 52), none, true⟩,
 ⟨.bin .add (.t 52) (.c (.int .i64 1)), (some 53), none, true⟩,
 ⟨.slice (.sl 1) (.t 51) (some (.t 53)) none none, (some 54), none, false⟩,
 ⟨.qcall (.f 13) [(.t 34), (.t 37)], (some 38), none, false⟩,
 ⟨.bin .add (.c (.str [40])) (.t 38), (some 39), none, true⟩,
 ⟨.bin .add (.t 39) (.c (.str [32])), (some 40), none, true⟩,
 ⟨.bin .add (.t 40) (.t 44), (some 45), none, true⟩,
 ⟨.bin .add (.t 45) (.c (.str [32])), (some 46), none, true⟩,
 ⟨.qcall (.f 13) [(.t 50), (.t 54)], (some 55), none, false⟩,
 ⟨.bin .add (.t 46) (.t 55), (some 56), none, true⟩,
 ⟨.bin .add (.t 56) (.c (.str [41])), (some 57), none, true⟩,
 ⟨.mov (.t 57), (some 4), none, true⟩])
 (.ret)))))
theorem st13q : stmOf Tryz.prog 13 p13q = some (s13q, [.tmp 4], 58) := by kernel_rfl

def p27q : Plan := ⟨⟨[], [], [], [], [], []⟩, [], [], false⟩
/-- cupel/cupellaw11.ranks (1 parameters, 0 captured) -/
def s27q : Stm :=
 .seq (.ops [⟨.mov (.c (.int .i64 0)), (some 2), none, true⟩])
 (.seq (.seq (.ops [⟨.mov (.t 0), (some 3), none, true⟩])
 (.block 0 (.seq (.ops [⟨.bin .eql (.t 3) (.c (.str [124, 124])), (some 5), none, true⟩,
 ⟨.mov (.t 5), (some 4), none, true⟩])
 (.cond (.t 4)
 (.seq (.ops [⟨.mov (.c (.int .i64 1)), (some 2), none, true⟩])
 (.ret))
 (.seq (.ops [⟨.bin .eql (.t 3) (.c (.str [38, 38])), (some 7), none, true⟩,
 ⟨.mov (.t 7), (some 6), none, true⟩])
 (.cond (.t 6)
 (.seq (.ops [⟨.mov (.c (.int .i64 2)), (some 2), none, true⟩])
 (.ret))
 (.seq (.seq (.ops [⟨.bin .eql (.t 3) (.c (.str [43])), (some 9), none, true⟩,
 ⟨.mov (.t 9), (some 8), none, true⟩])
 (.cond (.t 8)
 (.skip)
 (.ops [⟨.bin .eql (.t 3) (.c (.str [45])), (some 10), none, true⟩,
 ⟨.mov (.t 10), (some 8), none, true⟩])))
 (.cond (.t 8)
 (.seq (.ops [⟨.mov (.c (.int .i64 4)), (some 2), none, true⟩])
 (.ret))
 (.seq (.seq (.ops [⟨.bin .eql (.t 3) (.c (.str [42])), (some 12), none, true⟩,
 ⟨.mov (.t 12), (some 11), none, true⟩])
 (.cond (.t 11)
 (.skip)
 (.seq (.ops [⟨.bin .eql (.t 3) (.c (.str [47])), (some 13), none, true⟩,
 ⟨.mov (.t 13), (some 11), none, true⟩])
 (.cond (.t 11)
 (.skip)
 (.ops [⟨.bin .eql (.t 3) (.c (.str [37])), (some 14), none, true⟩,
 ⟨.mov (.t 14), (some 11), none, true⟩])))))
 (.cond (.t 11)
 (.seq (.ops [⟨.mov (.c (.int .i64 5)), (some 2), none, true⟩])
 (.ret))
 (.skip)))))))))))
 (.seq (.ops [⟨.mov (.c (.int .i64 3)), (some 2), none, true⟩])
 (.ret)))
theorem st27q : stmOf Tryz.prog 27 p27q = some (s27q, [.tmp 2], 15) := by kernel_rfl

def rankG (s : List UInt8) : Int :=
  bif s == [124, 124] then 1 else bif s == [38, 38] then 2 else bif s == [43] || s == [45] then 4 else bif s == [42] || (s == [47] || s == [37]) then 5 else 3
theorem rankG_eq : ∀ s ∈ sgnL, rankG s = rankF s := by decide
theorem ranks_c (s : List UInt8) : PCall Tryz.prog 27 [.str s] (.int .i64 (rankG s)) := by
  refine PCall.run (Tab.zero_ok _) st27q (by simp) fun E => ?_
  unfold rankG
  cases c1q : (s == [124, 124])
  case true => simp (config := {maxSteps := 1000000}) only [s27q, c1q, zzK, seval]
  cases c2q : (s == [38, 38])
  case true => simp (config := {maxSteps := 1000000}) only [s27q, c1q, c2q, zzK, seval]
  cases c3q : (s == [43])
  case true => simp (config := {maxSteps := 1000000}) only [s27q, c1q, c2q, c3q, Bool.true_or, zzK, seval]
  cases c4q : (s == [45])
  case true => simp (config := {maxSteps := 1000000}) only [s27q, c1q, c2q, c3q, c4q, Bool.or_true, zzK, seval]
  cases c5q : (s == [42])
  case true => simp (config := {maxSteps := 1000000}) only [s27q, c1q, c2q, c3q, c4q, c5q, Bool.true_or, Bool.or_self, zzK, seval]
  cases c6q : (s == [47])
  case true => simp (config := {maxSteps := 1000000}) only [s27q, c1q, c2q, c3q, c4q, c5q, c6q, Bool.true_or, Bool.or_true, Bool.or_self, zzK, seval]
  cases c7q : (s == [37])
  all_goals simp (config := {maxSteps := 1000000}) only [s27q, c1q, c2q, c3q, c4q, c5q, c6q, c7q, Bool.or_true, Bool.or_self, Bool.or_false, zzK, seval]
def q27q : List D → Option D
  | [.str s] => some (.int .i64 (rankG s))
  | _ => none
theorem q27q_ok (args : List D) (d : D) (h : q27q args = some d) : PCall Tryz.prog 27 args d := by
  unfold q27q at h
  split at h
  · cases h; exact ranks_c _
  · cases h
/-- The last one of the least, of those up to a place. -/
def atN (rs : List Int) : Nat → Nat
  | 0 => 0
  | i + 1 => if rs.getD (i + 1) 0 ≤ rs.getD (atN rs i) 0 then i + 1 else atN rs i
theorem atN_le (rs : List Int) : ∀ i, atN rs i ≤ i
  | 0 => Nat.le_refl _
  | i + 1 => by
    rw [atN]
    split
    · exact Nat.le_refl _
    · have := atN_le rs i; omega
def cutF : Nat → List (List UInt8) → List (List UInt8) → List UInt8
  | 0, _, _ => []
  | f + 1, ns, bs => if bs = [] then ns.getD 0 [] else
    [40] ++ cutF f (ns.take (atN (bs.map rankG) (bs.length - 1) + 1)) (bs.take (atN (bs.map rankG) (bs.length - 1))) ++ [32] ++ bs.getD (atN (bs.map rankG) (bs.length - 1)) [] ++ [32]
      ++ cutF f (ns.drop (atN (bs.map rankG) (bs.length - 1) + 1)) (bs.drop (atN (bs.map rankG) (bs.length - 1) + 1)) ++ [41]
def q13f (f : Nat) : List D → Option D
  | [.sl a, .sl b] => match decS a, decS b with
    | some ns, some bs => if ns.length = bs.length + 1 ∧ bs.length < f ∧ bs.length ≤ 1000000 ∧ (cutF f ns bs).length ≤ 1000000000000 then some (.str (cutF f ns bs)) else none
    | _, _ => none
  | _ => none
theorem q13f_eq {f : Nat} {ns bs : List (List UInt8)} (h1 : ns.length = bs.length + 1) (h2 : bs.length < f) (h3 : bs.length ≤ 1000000) (h4 : (cutF f ns bs).length ≤ 1000000000000) : q13f f [.sl (encS ns), .sl (encS bs)] = some (.str (cutF f ns bs)) := by
  simp only [q13f, decS_enc]; rw [if_pos ⟨h1, h2, h3, h4⟩]
def tq27 : Tab := Tab.zero.addQ 27 q27q
theorem tq27_q (g : FuncId) (args : List D) : tq27.q g args = if g = 27 then q27q args else Tab.zero.q g args := rfl
theorem tq27_a : tq27.a = Tab.zero.a := rfl
theorem tq27_c : tq27.c = Tab.zero.c := rfl
theorem tq27_ok : tq27.ok Tryz.prog := Tab.addQ_ok (Tab.zero_ok _) q27q_ok
theorem tq27_e : type_of% (And.intro @tq27_q (And.intro @tq27_a @tq27_c)) := (And.intro @tq27_q (And.intro @tq27_a @tq27_c))

def tqC (f : Nat) : Tab := tq27.addQ 13 (q13f f)
theorem tqC_q (f : Nat) (g : FuncId) (args : List D) : (tqC f).q g args = if g = 13 then q13f f args else tq27.q g args := rfl
theorem tqC_a (f : Nat) : (tqC f).a = tq27.a := rfl
theorem tqC_c (f : Nat) : (tqC f).c = tq27.c := rfl
theorem slice_take (l : List (List UInt8)) (i : Nat) (h : i ≤ l.length) : sliceEv (.sl 1) (.sl (encS l)) none (some (.int .i64 (i : Int))) none = some (.sl (encS (l.take i))) := by
  have h1 : ∀ y ∈ encS l, y.length = 1 := fun y hy => by
    obtain ⟨x, _, rfl⟩ := List.mem_map.1 hy
    rfl
  simp only [sliceEv, bounds, intOfD, len_encS]
  rw [if_pos h1, if_pos ⟨by omega, by omega, by omega⟩]
  simp [encS, List.map_take]
theorem slice_drop (l : List (List UInt8)) (i : Nat) (h : i ≤ l.length) : sliceEv (.sl 1) (.sl (encS l)) (some (.int .i64 (i : Int))) none none = some (.sl (encS (l.drop i))) := by
  have h1 : ∀ y ∈ encS l, y.length = 1 := fun y hy => by
    obtain ⟨x, _, rfl⟩ := List.mem_map.1 hy
    rfl
  simp only [sliceEv, bounds, intOfD, len_encS]
  rw [if_pos h1, if_pos ⟨by omega, by omega, by omega⟩]
  simp only [Option.map_some, Option.some.injEq, D.sl.injEq, Int.toNat_natCast, encS, List.map_drop]
  exact List.take_of_length_le (by simp)
theorem askE_encS1 {K : D → AHeap → Prop} {h : AHeap} {l : List (List UInt8)} {i : Nat} {x : List UInt8} (e : l[i]? = some x) : askE 1 K h (encS l) (i : Int) = K (.eptr [.str x] 0) h := by
  have h1 := (List.getElem?_eq_some_iff.1 e).1
  rw [askE_encS]
  apply propext
  constructor
  · intro hh; exact hh.2 _ (by simpa using e)
  · intro hh
    refine ⟨⟨by omega, by omega⟩, fun y hy => ?_⟩
    rw [Int.toNat_natCast, e] at hy
    cases hy
    exact hh
set_option maxHeartbeats 1000000 in
theorem cutAt_step (f : Nat) (hT : (tqC f).ok Tryz.prog) (ns bs : List (List UInt8)) (h1 : ns.length = bs.length + 1) (h2 : bs.length < f + 1) (h3 : bs.length ≤ 1000000) (h4 : (cutF (f + 1) ns bs).length ≤ 1000000000000) : PCall Tryz.prog 13 [.sl (encS ns), .sl (encS bs)] (.str (cutF (f + 1) ns bs)) := by
  refine PCall.run hT st13q (by simp) fun E => ?_
  have hTq := tqC_q f
  have hTa := tqC_a f
  have hTc := tqC_c f
  generalize tqC f = TT at hTq hTa hTc ⊢
  unfold cutF at h4 ⊢
  by_cases c0q : bs = []
  · subst c0q
    rw [if_pos rfl] at h4 ⊢
    obtain ⟨x, hx⟩ : ∃ x, ns[0]? = some x := ⟨_, List.getElem?_eq_getElem (by simp at h1; omega)⟩
    have hac : ∀ (K : D → AHeap → Prop) (h : AHeap), askE 1 K h (encS ns) 0 = K (.eptr [.str x] 0) h := fun K h => askE_encS1 (i := 0) hx
    have hg : ns.getD 0 [] = x := by rw [List.getD_eq_getElem?_getD, hx]; rfl
    rw [hg]
    simp (config := {maxSteps := 1000000}) only [s13q, hac, show encS [] = [] from rfl, List.length_nil, hTq, hTa, hTc, tq27_e, zzK, seval]
  · rw [if_neg c0q] at h4 ⊢
    have hb0 : bs.length ≠ 0 := fun e => c0q (List.length_eq_zero_iff.1 e)
    have g0 : ((bs.length : Int) == 0) = false := by simp; omega
    simp (config := {maxSteps := 1000000}) only [s13q, g0, len_encS, hTq, hTa, hTc, tq27_e, zzK, seval]
    intro _
    refine run_loop (X := Nat) (fun i => [(0, .sl (encS ns)), (1, .sl (encS bs)), (5, .int .i64 (atN (bs.map rankG) (i - 1))), (6, .int .i64 i)]) (fun _ => .emp) (fun i => bs.length - i) (fun i => 1 ≤ i ∧ i ≤ bs.length) 1 ⟨Nat.le_refl _, by omega⟩ (by simp only [atN, zzK, seval]) (AHeap.sub_refl _) ?_
    rintro i Q ⟨hi1, hi2⟩ hQ
    have hat := atN_le (bs.map rankG) (i - 1)
    by_cases ci : i < bs.length
    · have g : ((i : Int) < (bs.length : Int)) = True := eq_true (by omega)
      have wi : IntKind.i64.wrap ((i : Int) + 1) = ((i + 1 : Nat) : Int) := wrap_succ (by omega)
      obtain ⟨x, hx⟩ : ∃ x, bs[i]? = some x := ⟨_, List.getElem?_eq_getElem ci⟩
      obtain ⟨y, hy⟩ : ∃ y, bs[atN (bs.map rankG) (i - 1)]? = some y := ⟨_, List.getElem?_eq_getElem (by omega)⟩
      have hax : ∀ (K : D → AHeap → Prop) (h : AHeap), askE 1 K h (encS bs) (i : Int) = K (.eptr [.str x] 0) h := fun K h => askE_encS1 hx
      have hay : ∀ (K : D → AHeap → Prop) (h : AHeap), askE 1 K h (encS bs) (atN (bs.map rankG) (i - 1) : Int) = K (.eptr [.str y] 0) h := fun K h => askE_encS1 hy
      have hqx : q27q [.str x] = some (.int .i64 (rankG x)) := rfl
      have hqy : q27q [.str y] = some (.int .i64 (rankG y)) := rfl
      have hst : atN (bs.map rankG) (i + 1 - 1) = if rankG x ≤ rankG y then i else atN (bs.map rankG) (i - 1) := by
        obtain ⟨j, rfl⟩ : ∃ j, i = j + 1 := ⟨i - 1, by omega⟩
        show atN (bs.map rankG) (j + 1) = _
        simp only [Nat.add_sub_cancel] at hy ⊢
        rw [atN]
        simp only [List.getD_eq_getElem?_getD, List.getElem?_map, hx, hy, Option.map_some, Option.getD_some]
      by_cases cr : rankG x ≤ rankG y
      · have gr : (rankG x ≤ rankG y) = True := eq_true cr
        rw [if_pos cr, Nat.add_sub_cancel] at hst
        simp (config := {maxSteps := 1000000}) only [g, gr, wi, hax, hay, hqx, hqy, len_encS, hTq, hTa, hTc, tq27_e, zzK, seval]
        intro _
        exact hQ (i + 1) _ _ ⟨by omega, by omega⟩ (by simp only [hst, zzK, seval]) (AHeap.sub_refl _) (by omega)
      · have gr : (rankG x ≤ rankG y) = False := eq_false cr
        rw [if_neg cr, Nat.add_sub_cancel] at hst
        simp (config := {maxSteps := 1000000}) only [g, gr, wi, hax, hay, hqx, hqy, len_encS, hTq, hTa, hTc, tq27_e, zzK, seval]
        intro _
        exact hQ (i + 1) _ _ ⟨by omega, by omega⟩ (by simp only [hst, zzK, seval]) (AHeap.sub_refl _) (by omega)
    · have e0 : i = bs.length := by omega
      subst e0
      have g : ((bs.length : Int) < (bs.length : Int)) = False := eq_false (by omega)
      generalize atN (bs.map rankG) (bs.length - 1) = a at *
      have wa : IntKind.i64.wrap ((a : Int) + 1) = ((a + 1 : Nat) : Int) := wrap_succ (by omega)
      obtain ⟨y, hy⟩ : ∃ y, bs[a]? = some y := ⟨_, List.getElem?_eq_getElem (by omega)⟩
      have hay : ∀ (K : D → AHeap → Prop) (h : AHeap), askE 1 K h (encS bs) (a : Int) = K (.eptr [.str y] 0) h := fun K h => askE_encS1 hy
      have hg : bs.getD a [] = y := by rw [List.getD_eq_getElem?_getD, hy]; rfl
      rw [hg] at h4 ⊢
      have s1q := slice_take ns (a + 1) (by omega)
      have s2q := slice_take bs a (by omega)
      have s3q := slice_drop ns (a + 1) (by omega)
      have s4q := slice_drop bs (a + 1) (by omega)
      have r1 := q13f_eq (f := f) (ns := ns.take (a + 1)) (bs := bs.take a) (by simp only [List.length_take]; omega) (by simp only [List.length_take]; omega) (by simp only [List.length_take]; omega) (by simp only [List.length_append] at h4; omega)
      have r2 := q13f_eq (f := f) (ns := ns.drop (a + 1)) (bs := bs.drop (a + 1)) (by simp only [List.length_drop]; omega) (by simp only [List.length_drop]; omega) (by simp only [List.length_drop]; omega) (by simp only [List.length_append] at h4; omega)
      generalize cutF f (ns.take (a + 1)) (bs.take a) = A at *
      generalize cutF f (ns.drop (a + 1)) (bs.drop (a + 1)) = B at *
      simp (config := {maxSteps := 1000000}) only [g, wa, hay, s1q, s2q, s3q, s4q, r1, r2, len_encS, hTq, hTa, hTc, tq27_e, zzK, seval]
      intros
      simp only [List.length_append, List.length_cons, List.length_nil] at h4 ⊢
      omega
theorem tqC_ok : ∀ f, (tqC f).ok Tryz.prog
  | 0 => Tab.addQ_ok tq27_ok fun args d h => by
    unfold q13f at h
    split at h
    · split at h
      · split at h
        · rename_i c; exact absurd c.2.1 (Nat.not_lt_zero _)
        · cases h
      · cases h
    · cases h
  | f + 1 => Tab.addQ_ok tq27_ok fun args d h => by
    unfold q13f at h
    split at h
    · split at h
      · rename_i ns bs hn hb
        split at h
        · rename_i c
          cases h
          rw [decS_some hn, decS_some hb]
          exact cutAt_step f (tqC_ok f) ns bs c.1 c.2.1 c.2.2.1 c.2.2.2
        · cases h
      · cases h
    · cases h
theorem q13f_ok : ∀ (f : Nat) (args : List D) (d : D) (h : q13f f args = some d), PCall Tryz.prog 13 args d
  | 0, args, d, h => by
    unfold q13f at h
    split at h
    · split at h
      · split at h
        · rename_i c; exact absurd c.2.1 (Nat.not_lt_zero _)
        · cases h
      · cases h
    · cases h
  | f + 1, args, d, h => by
    unfold q13f at h
    split at h
    · split at h
      · rename_i ns bs hn hb
        split at h
        · rename_i c
          cases h
          rw [decS_some hn, decS_some hb]
          exact cutAt_step f (tqC_ok f) ns bs c.1 c.2.1 c.2.2.1 c.2.2.2
        · cases h
      · cases h
    · cases h
/-! ### A tree that is cut so -/
def prT : RT → List UInt8
  | .leaf v => v
  | .node s l r => [40] ++ prT l ++ [32] ++ s ++ [32] ++ prT r ++ [41]
theorem names_len : ∀ t : RT, t.names.length = t.sgs.length + 1
  | .leaf v => rfl
  | .node s l r => by
    rw [RT.names, RT.sgs, List.length_append, List.length_append, List.length_cons, names_len l, names_len r]
    omega
theorem atN_cut (L R : List Int) (r : Int) (hL : ∀ x ∈ L, r ≤ x) (hR : ∀ x ∈ R, r < x) : ∀ i, L.length ≤ i → i < (L ++ r :: R).length → atN (L ++ r :: R) i = L.length
  | 0, h, _ => by simp only [atN]; omega
  | i + 1, h, h2 => by
    have hr0 : (L ++ r :: R).getD L.length 0 = r := by
      rw [List.getD_eq_getElem?_getD, List.getElem?_append_right (Nat.le_refl _), Nat.sub_self]; rfl
    rw [atN]
    by_cases c : L.length ≤ i
    · rw [atN_cut L R r hL hR i c (by omega), hr0, if_neg]
      rw [List.getD_eq_getElem?_getD, List.getElem?_append_right (by omega)]
      obtain ⟨j, hj⟩ : ∃ j, i + 1 - L.length = j + 1 := ⟨i - L.length, by omega⟩
      rw [hj, List.getElem?_cons_succ]
      have hjl : j < R.length := by
        rw [List.length_append, List.length_cons] at h2; omega
      rw [List.getElem?_eq_getElem hjl]
      have := hR _ (List.getElem_mem hjl)
      simp only [Option.getD_some]
      omega
    · have e : i + 1 = L.length := by omega
      have hle := atN_le (L ++ r :: R) i
      rw [e, hr0, if_pos]
      rw [List.getD_eq_getElem?_getD, List.getElem?_append_left (by omega), List.getElem?_eq_getElem (by omega)]
      exact hL _ (List.getElem_mem _)
theorem cut_eq : ∀ (t : RT) (f : Nat), t.Cut → (∀ x ∈ t.sgs, x ∈ sgnL) → t.sgs.length < f → cutF f t.names t.sgs = prT t
  | .leaf v, f, _, _, h => by
    obtain ⟨f, rfl⟩ : ∃ f', f = f' + 1 := ⟨f - 1, by omega⟩
    rw [cutF]; rfl
  | .node s l r, f, hc, hs, h => by
    obtain ⟨f, rfl⟩ : ∃ f', f = f' + 1 := ⟨f - 1, by omega⟩
    obtain ⟨c1q, c2q, c3q, c4q⟩ := hc
    rw [RT.sgs] at hs h
    rw [List.length_append, List.length_cons] at h
    have hsl : ∀ x ∈ l.sgs, x ∈ sgnL := fun x hx => hs x (by simp [hx])
    have hsr : ∀ x ∈ r.sgs, x ∈ sgnL := fun x hx => hs x (by simp [hx])
    have hss : s ∈ sgnL := hs s (by simp)
    have hat : atN ((l.sgs ++ s :: r.sgs).map rankG) ((l.sgs ++ s :: r.sgs).length - 1) = l.sgs.length := by
      rw [List.map_append, List.map_cons]
      have := atN_cut (l.sgs.map rankG) (r.sgs.map rankG) (rankG s) (fun x hx => by
        obtain ⟨y, hy, rfl⟩ := List.mem_map.1 hx
        rw [rankG_eq s hss, rankG_eq y (hsl y hy)]; exact c3q y hy) (fun x hx => by
        obtain ⟨y, hy, rfl⟩ := List.mem_map.1 hx
        rw [rankG_eq s hss, rankG_eq y (hsr y hy)]; exact c4q y hy) ((l.sgs ++ s :: r.sgs).length - 1) (by simp only [List.length_append, List.length_cons, List.length_map]; omega) (by simp only [List.length_append, List.length_cons, List.length_map]; omega)
      rw [this, List.length_map]
    rw [RT.names, RT.sgs, cutF, if_neg (by simp), hat]
    have e1 : (l.names ++ r.names).take (l.sgs.length + 1) = l.names := by rw [← names_len, List.take_left]
    have e2 : (l.names ++ r.names).drop (l.sgs.length + 1) = r.names := by rw [← names_len, List.drop_left]
    have e3 : (l.sgs ++ s :: r.sgs).take l.sgs.length = l.sgs := List.take_left
    have e4 : (l.sgs ++ s :: r.sgs).drop (l.sgs.length + 1) = r.sgs := by rw [← List.drop_drop, List.drop_left]; rfl
    have e5 : (l.sgs ++ s :: r.sgs).getD l.sgs.length [] = s := by
      rw [List.getD_eq_getElem?_getD, List.getElem?_append_right (Nat.le_refl _), Nat.sub_self]; rfl
    rw [e1, e2, e3, e4, e5, cut_eq l f c1q hsl (by omega), cut_eq r f c2q hsr (by omega), prT]
theorem prT_print : ∀ t : RT, printF t.nd = prT t
  | .leaf v => by
    rw [RT.nd, printF_mk, printFs_nil]
    simp [printW, exprW, prT]
  | .node s l r => by
    rw [RT.nd, printF_mk, printFs_cons, printFs_cons, printFs_nil, prT_print l, prT_print r]
    simp [printW, exprW, prT, Lib.join_cons, Lib.joinTail]
end
end Go.Proofs.YtpagdhbmbnoddaaGreatDoor.Zz
/- Contracts: expressions. -/
namespace Go.Proofs.YtpagdhbmbnoddaaGreatDoor.Zz
noncomputable section
set_option linter.unusedVariables false
set_option linter.unusedSimpArgs false
set_option maxRecDepth 20000
def p105p : Plan := ⟨⟨[], [(1, 1), (2, 1), (3, 1), (8, 6), (8, 9)], [], [((8, 6), [(.t 6), (.t 5)])], [((8, 2), (.t 6))], []⟩, [(8, [0, 1, 2, 3, 4, 5, 6, 7, 8, 9, 10])], [], false⟩
/-- (*cupel/parse.parser).expr (2 parameters, 0 captured) -/
def s105p : Stm :=
 .seq (.ops [⟨.alloc [(.int .i64 0), (.int .i64 0), (.str []), (.int .i64 0), .nilsl], (some 4), none, false⟩])
 (.seq (.seq (.ops [⟨.mov (.t 0), (some 8), none, true⟩,
 ⟨.call (.f 86) [(.t 8)], (some 9), none, false⟩])
 (.defer (.t 9) []))
 (.seq (.ops [⟨.mov (.t 0), (some 10), none, true⟩,
 ⟨.call (.f 131) [(.t 10)], (some 11), none, false⟩,
 ⟨.alloc [(.int .i64 0), (.int .i64 0), (.str []), (.int .i64 0), .nilsl], (some 5), none, false⟩,
 ⟨.store 5 (.t 5) (.t 11), none, none, false⟩])
 (.block 0 (.loop (.block 1 (.seq (.ops [⟨.mov (.t 0), (some 12), none, true⟩,
 ⟨.call (.f 33) [(.t 12)], (some 13), none, false⟩,
 ⟨.alloc [(.int .i64 0), (.str []), (.int .i64 0)], (some 6), none, false⟩,
 ⟨.store 3 (.t 6) (.t 13), none, none, false⟩])
 (.seq (.ops [⟨.fieldAddr 1 (.t 6), (some 14), none, true⟩,
 ⟨.load none (.t 14), (some 15), none, false⟩,
 ⟨.qcall (.f 132) [(.t 15)], (some 16), none, false⟩,
 ⟨.mov (.t 16), (some 7), none, true⟩])
 (.seq (.seq (.ops [⟨.fieldAddr 0 (.t 6), (some 17), none, true⟩,
 ⟨.load none (.t 17), (some 18), none, false⟩,
 ⟨.bin .neq (.t 18) (.c (.int .i64 5)), (some 19), none, true⟩,
 ⟨.mov (.t 19), (some 20), none, true⟩,
 ⟨.mov (.t 7), (some 21), (some (20, false)), true⟩,
 ⟨.mov (.t 1), (some 22), (some (20, false)), true⟩,
 ⟨.bin .leq (.t 21) (.t 22), (some 23), (some (20, false)), true⟩,
 ⟨.pick (.t 20) (.c (.bool true)) (.t 23), (some 24), none, true⟩])
 (.cond (.t 24)
 (.seq (.ops [⟨.load (some 5) (.t 5), (some 25), none, false⟩,
 ⟨.store 5 (.t 4) (.t 25), none, none, false⟩])
 (.ret))
 (.skip)))
 (.seq (.ops [⟨.mov (.t 0), (some 26), none, true⟩,
 ⟨.nilCheck (.t 26), (some 27), none, true⟩,
 ⟨.fieldAddr 1 (.t 27), (some 28), none, true⟩,
 ⟨.load none (.t 28), (some 29), none, false⟩,
 ⟨.bin .add (.t 29) (.c (.int .i64 1)), (some 30), none, true⟩,
 ⟨.nilCheck (.t 26), (some 31), none, true⟩,
 ⟨.fieldAddr 1 (.t 31), (some 32), none, true⟩,
 ⟨.store 1 (.t 32) (.t 30), none, none, false⟩])
 (.opsD [⟨.mov (.t 0), (some 33), none, true⟩,
 ⟨.fieldAddr 1 (.t 6), (some 34), none, true⟩,
 ⟨.loadOf none (.t 34) (.t 6), (some 35), none, false⟩,
 ⟨.load (some 5) (.t 5), (some 36), none, false⟩,
 ⟨.mov (.t 0), (some 37), none, true⟩,
 ⟨.mov (.t 7), (some 38), none, true⟩,
 ⟨.callNe (.f 105) [(.t 37), (.t 38)] [(.t 6), (.t 5)], (some 39), none, false⟩,
 ⟨.buildSlice 5 [(.int .i64 0), (.int .i64 0), (.str []), (.int .i64 0), .nilsl] 2 [(0, (.t 36)), (1, (.t 39))] false, (some 40), none, true⟩,
 ⟨.build [(.int .i64 0), (.int .i64 0), (.str []), (.int .i64 0), .nilsl] [(0, 1, (.c (.int .i64 26))), (2, 1, (.t 35)), (4, 1, (.t 40))], (some 41), none, true⟩,
 ⟨.call (.f 32) [(.t 33), (.t 41)], (some 42), none, false⟩,
 ⟨.store 5 (.t 5) (.t 42), none, none, false⟩]))))))))))
theorem st105p : stmOf Tryz.prog 105 p105p = some (s105p, [.cell 4 (some 5)], 43) := by kernel_rfl

def p106p : Plan := ⟨⟨[], [(1, 4), (2, 1), (3, 1)], [], [], [], []⟩, [], [], false⟩
/-- (*cupel/parse.parser).simple (3 parameters, 0 captured) -/
def s106p : Stm :=
 .seq (.ops [⟨.alloc [(.int .i64 0), (.int .i64 0), (.str []), (.int .i64 0), .nilsl], (some 6), none, false⟩])
 (.seq (.ops [⟨.mov (.t 0), (some 8), none, true⟩,
 ⟨.mov (.t 1), (some 9), none, true⟩,
 ⟨.mov (.t 2), (some 10), none, true⟩,
 ⟨.build [(.int .i64 0), (.int .i64 0), (.str []), (.int .i64 0), .nilsl] [(0, 1, (.t 9)), (2, 1, (.t 10))], (some 11), none, true⟩,
 ⟨.call (.f 32) [(.t 8), (.t 11)], (some 12), none, false⟩,
 ⟨.alloc [(.int .i64 0), (.int .i64 0), (.str []), (.int .i64 0), .nilsl], (some 7), none, false⟩,
 ⟨.store 5 (.t 7) (.t 12), none, none, false⟩])
 (.seq (.ops [⟨.mov (.t 0), (some 13), none, true⟩,
 ⟨.call (.f 105) [(.t 13), (.c (.int .i64 0))], (some 14), none, false⟩,
 ⟨.buildSlice 5 [(.int .i64 0), (.int .i64 0), (.str []), (.int .i64 0), .nilsl] 1 [(0, (.t 14))] false, (some 15), none, true⟩,
 ⟨.fieldAddr 4 (.t 7), (some 16), none, true⟩,
 ⟨.store 1 (.t 16) (.t 15), none, none, false⟩])
 (.seq (.ops [⟨.mov (.t 0), (some 17), none, true⟩,
 ⟨.call (.f 63) [(.t 17), (.c (.str [59]))], (some 18), none, false⟩])
 (.seq (.ops [⟨.load (some 5) (.t 7), (some 19), none, false⟩,
 ⟨.store 5 (.t 6) (.t 19), none, none, false⟩])
 (.ret)))))
theorem st106p : stmOf Tryz.prog 106 p106p = some (s106p, [.cell 6 (some 5)], 20) := by kernel_rfl

theorem wpR_mono' {α : Type} {r : PR α} {K K' : α → PS → Prop} {E E' : Int → Int → Prop} (hk : ∀ x s, r = .ok x s → K x s → K' x s) (he : ∀ a e, E a e → E' a e) (h : wpR r K E) : wpR r K' E' := by
  cases r with
  | ok x s => exact hk _ _ rfl h
  | fail a e => exact he _ _ h
  | out => exact h
abbrev encN (n : Nd) : D := .agg n.enc
def cGe (G : List Tok → PRec) (args : List D) (h : AHeap) (K E : D → AHeap → Prop) : Prop := ∃ (l : List Tok) (s : PS) (id : Nat) (k : Int), args = [.ptr id 1 0, .int .i64 k] ∧ WOk l ∧ cP ((G l).expr k) encN l s id h K E
def cGu (G : List Tok → PRec) (args : List D) (h : AHeap) (K E : D → AHeap → Prop) : Prop := ∃ (l : List Tok) (s : PS) (id : Nat), args = [.ptr id 1 0] ∧ WOk l ∧ cP (G l).unary encN l s id h K E
def cGc (G : List Tok → PRec) (args : List D) (h : AHeap) (K E : D → AHeap → Prop) : Prop := ∃ (l : List Tok) (s : PS) (id : Nat) (x : List UInt8), args = [.ptr id 1 0, .str x] ∧ WOk l ∧ cP ((G l).call x) encN l s id h K E
def cGb (G : List Tok → PRec) (args : List D) (h : AHeap) (K E : D → AHeap → Prop) : Prop := ∃ (l : List Tok) (s : PS) (id : Nat), args = [.ptr id 1 0] ∧ WOk l ∧ cP (G l).block encN l s id h K E
def cGs (G : List Tok → PRec) (args : List D) (h : AHeap) (K E : D → AHeap → Prop) : Prop := ∃ (l : List Tok) (s : PS) (id : Nat), args = [.ptr id 1 0] ∧ WOk l ∧ cP (G l).stmt encN l s id h K E
def cGr (G : List Tok → PRec) (args : List D) (h : AHeap) (K E : D → AHeap → Prop) : Prop := ∃ (l : List Tok) (s : PS) (id : Nat), args = [.ptr id 1 0] ∧ WOk l ∧ cP (G l).branch encN l s id h K E
theorem cGe_mono (G : List Tok → PRec) (args : List D) (h : AHeap) (K E K' E' : D → AHeap → Prop) (hk : ∀ d h, K d h → K' d h) (he : ∀ d h, E d h → E' d h) (c : cGe G args h K E) : cGe G args h K' E' := by
  obtain ⟨l, s, id, k, a, b, c⟩ := c
  exact ⟨l, s, id, k, a, b, cP_mono hk he c⟩
theorem cGu_mono (G : List Tok → PRec) (args : List D) (h : AHeap) (K E K' E' : D → AHeap → Prop) (hk : ∀ d h, K d h → K' d h) (he : ∀ d h, E d h → E' d h) (c : cGu G args h K E) : cGu G args h K' E' := by
  obtain ⟨l, s, id, a, b, c⟩ := c
  exact ⟨l, s, id, a, b, cP_mono hk he c⟩
theorem cGc_mono (G : List Tok → PRec) (args : List D) (h : AHeap) (K E K' E' : D → AHeap → Prop) (hk : ∀ d h, K d h → K' d h) (he : ∀ d h, E d h → E' d h) (c : cGc G args h K E) : cGc G args h K' E' := by
  obtain ⟨l, s, id, k, a, b, c⟩ := c
  exact ⟨l, s, id, k, a, b, cP_mono hk he c⟩
theorem cGb_mono (G : List Tok → PRec) (args : List D) (h : AHeap) (K E K' E' : D → AHeap → Prop) (hk : ∀ d h, K d h → K' d h) (he : ∀ d h, E d h → E' d h) (c : cGb G args h K E) : cGb G args h K' E' := by
  obtain ⟨l, s, id, a, b, c⟩ := c
  exact ⟨l, s, id, a, b, cP_mono hk he c⟩
theorem cGs_mono (G : List Tok → PRec) (args : List D) (h : AHeap) (K E K' E' : D → AHeap → Prop) (hk : ∀ d h, K d h → K' d h) (he : ∀ d h, E d h → E' d h) (c : cGs G args h K E) : cGs G args h K' E' := by
  obtain ⟨l, s, id, a, b, c⟩ := c
  exact ⟨l, s, id, a, b, cP_mono hk he c⟩
theorem cGr_mono (G : List Tok → PRec) (args : List D) (h : AHeap) (K E K' E' : D → AHeap → Prop) (hk : ∀ d h, K d h → K' d h) (he : ∀ d h, E d h → E' d h) (c : cGr G args h K E) : cGr G args h K' E' := by
  obtain ⟨l, s, id, a, b, c⟩ := c
  exact ⟨l, s, id, a, b, cP_mono hk he c⟩
/-- The parts that call each other, at one level. -/
def tbG (G : List Tok → PRec) : Tab := (((((tb64p.addE 105 (cGe G) (cGe_mono G)).addE 131 (cGu G) (cGu_mono G)).addE 107 (cGc G) (cGc_mono G)).addE 65 (cGb G) (cGb_mono G)).addE 87 (cGs G) (cGs_mono G)).addE 104 (cGr G) (cGr_mono G)
theorem tbG_q {G : List Tok → PRec} : (tbG G).q = tb64p.q := rfl
theorem tbG_a {G : List Tok → PRec} : (tbG G).a = tb64p.a := rfl
theorem tbG_c {G : List Tok → PRec} (g : FuncId) (args : List D) (h : AHeap) (K E : D → AHeap → Prop) : (tbG G).c g args h K E = if g = 104 then cGr G args h K E else if g = 87 then cGs G args h K E else if g = 65 then cGb G args h K E else if g = 107 then cGc G args h K E else if g = 131 then cGu G args h K E else if g = 105 then cGe G args h K E else tb64p.c g args h K E := rfl
theorem tbG_e : type_of% (And.intro (And.intro @tbG_q (And.intro @tbG_a @tbG_c)) @tb64p_e) := (And.intro (And.intro @tbG_q (And.intro @tbG_a @tbG_c)) @tb64p_e)
theorem push_id {id : Nat} (h : AHeap) (j : Nat) (B C : AObj) (e : ¬ j = id) : (h.set j B).set id C = (h.set id C).set j B := AHeap.ext fun q => by
  simp only [AHeap.set_f]
  by_cases c1p : q = id
  · subst c1p
    have : ¬ q = j := fun x => e x.symm
    simp [this]
  · simp [c1p]
theorem set5 {a b c d e : D} (n : Nd) : setAt [a, b, c, d, e] 0 n.enc = n.enc := by
  obtain ⟨k, t, s, m, l⟩ := n
  rw [enc_mk]; rfl
theorem take5 (n : Nd) : n.enc.take 5 = n.enc := by
  obtain ⟨k, t, s, m, l⟩ := n
  rw [enc_mk]; rfl
theorem setE (m n : Nd) : setAt m.enc 0 n.enc = n.enc := by
  obtain ⟨k, t, s, v, l⟩ := m
  rw [enc_mk, set5]
theorem simple_c (G : List Tok → PRec) (hT : (tbG G).ok Tryz.prog) (l : List Tok) (hl : WOk l) (s : PS) (i1 : Nat) (kd : Int) (x : List UInt8) (ok : PSok l s) (K0 : Nd → PS → Prop) (E0 : Int → Int → Prop) (hw : wpR (pSimple l (G l) kd x s) (fun x s' => PSok l s' → K0 x s') E0) : ACalls Tryz.prog 106 [.ptr i1 1 0, .int .i64 kd, .str x] (AHeap.emp.set i1 (pObj l s)) (retP encN l i1 K0 E0) := by
  refine ACalls.of_stmD hT (dc := DTab.none) (fun _ _ => DTab.none_ok) (by kernel_rfl) st106p (by simp) ?_
  rw [vc_todo]
  have hp := fun (h : AHeap) (j : Nat) (B C : AObj) => push_id (id := i1) h j B C
  unfold pSimple at hw
  rw [wpR_bind] at hw
  simp (config := {maxSteps := 1000000}) only [s106p, hp, hp, len_enc, enc_ok, enc_unnil, part_enc, take5, set5, setE, retD_ret, retD_normal, leav_nil, leav_func, finD, tbG_e, tb64p_e, zzK, seval]
  intro i2 a2_1 b2_1
  refine .inl ⟨l, s, i1, .mk kd 0 x 0 [], by simp only [enc_mk, encs_nil], hl.lo, (by simp [a2_1, b2_1]), ok, wpR_mono (fun n s1p k ok1 => ?_) (fun a e k s' => ?_) hw⟩
  case refine_2 =>
    simp only [panD, leav_nil, finD]
    exact mid_pan (s' := s') (by simp [a2_1, b2_1]) k
  obtain ⟨nk, nt, ns, nm, nl⟩ := n
  rw [wpR_bind] at k
  simp (config := {maxSteps := 1000000}) only [enc_mk, hp, a2_1, b2_1, len_enc, enc_ok, enc_unnil, part_enc, take5, set5, setE, retD_ret, retD_normal, leav_nil, leav_func, finD, tbG_e, tb64p_e, zzK, seval]
  intro i3 a3_2 b3_2 a3_1 b3_1
  refine ⟨l, s1p, i1, 0, rfl, hl, (by simp [a2_1, b2_1, a3_2, b3_2, a3_1, b3_1]), ok1, wpR_mono (fun e s2p k ok2 => ?_) (fun a e k s' => ?_) k⟩
  case refine_2 =>
    simp only [panD, leav_nil, finD]
    exact mid_pan (s' := s') (by simp [a2_1, b2_1, a3_2, b3_2, a3_1, b3_1]) k
  rw [wpR_bind] at k
  simp (config := {maxSteps := 1000000}) only [hp, a2_1, b2_1, a3_2, b3_2, a3_1, b3_1, len_enc, enc_ok, enc_unnil, part_enc, take5, set5, setE, retD_ret, retD_normal, leav_nil, leav_func, finD, tbG_e, tb64p_e, zzK, seval]
  refine ⟨l, s2p, i1, [59], rfl, hl.lo, (by simp [a2_1, b2_1, a3_2, b3_2, a3_1, b3_1]), ok2, wpR_mono (fun _ s3p k ok3 => ?_) (fun a e k s' => ?_) k⟩
  case refine_2 =>
    simp only [panD, leav_nil, finD]
    exact mid_pan (s' := s') (by simp [a2_1, b2_1, a3_2, b3_2, a3_1, b3_1]) k
  rw [wpR_ok] at k
  simp (config := {maxSteps := 1000000}) only [hp, a2_1, b2_1, a3_2, b3_2, a3_1, b3_1, len_enc, enc_ok, enc_unnil, part_enc, take5, set5, setE, retD_ret, retD_normal, leav_nil, leav_func, finD, tbG_e, tb64p_e, zzK, seval]
  exact mid_ret (x := .mk nk nt ns nm [e]) (s' := s3p) (by rw [encN, enc_mk, encs_cons, encs_nil]) (by simp [a2_1, b2_1, a3_2, b3_2, a3_1, b3_1]) (k ok3)
theorem deepOk {l : List Tok} {s s' : PS} (ok : PSok l s) (ok' : PSok l s') (e : s'.deep = s.deep + 1) : PSok l { s' with deep := s'.deep - 1 } ∧ IntKind.i64.wrap (s'.deep - 1) = s'.deep - 1 := by
  obtain ⟨h1, h2, h3, h4, h5, h6⟩ := ok
  obtain ⟨g1, g2, g3, g4, g5, g6⟩ := ok'
  exact ⟨⟨g1, g2, g3, g4, by simp only; omega, by simp only; omega⟩, wrap_i64 (by omega) (by omega)⟩
theorem deepIn {l : List Tok} {s : PS} (ok : PSok l s) (h : ¬ s.deep + 1 > 40) : PSok l { s with deep := s.deep + 1 } := by
  obtain ⟨h1, h2, h3, h4, h5, h6⟩ := ok
  exact ⟨h1, h2, h3, h4, by simp only; omega, by simp only; omega⟩
theorem expr_c (G : List Tok → PRec) (hG : ∀ l, PKeep (G l)) (hT : (tbG G).ok Tryz.prog) (l : List Tok) (hl : WOk l) (s : PS) (i1 : Nat) (least : Int) (ok : PSok l s) (K0 : Nd → PS → Prop) (E0 : Int → Int → Prop) (hw : wpR (exprG l (G l) least s) (fun x s' => PSok l s' → K0 x s') E0) : ACalls Tryz.prog 105 [.ptr i1 1 0, .int .i64 least] (AHeap.emp.set i1 (pObj l s)) (retP encN l i1 K0 E0) := by
  refine ACalls.of_stmD hT (dc := dIn) dIn_ok (by kernel_rfl) st105p (by simp) ?_
  rw [vc_todo]
  have hp := fun (h : AHeap) (j : Nat) (B C : AObj) => push_id (id := i1) h j B C
  have w1 : IntKind.i64.wrap (s.deep + 1) = s.deep + 1 := wrap_i64 (by have := ok.d0; omega) (by have := ok.d1; omega)
  unfold exprG pDeep pIn at hw
  rw [wpR_bind] at hw
  simp (config := {maxSteps := 1000000}) only [s105p, s86p, pObj, tbG_e, tb64p_e, zzK, seval]
  intro i2 a2_1 b2_1 i3 a3_2 b3_2 a3_1 b3_1
  by_cases c : s.deep + 1 > 40
  · have g : (s.deep + 1 > 40) = True := eq_true c
    rw [if_pos c] at hw
    simp (config := {maxSteps := 1000000}) only [g, w1, hp, a2_1, b2_1, a3_2, b3_2, a3_1, b3_1, len_enc, enc_ok, enc_unnil, part_enc, take5, set5, setE, retD_ret, retD_normal, leav_nil, leav_func, finD, tbG_e, tb64p_e, zzK, seval]
    refine ⟨l, { s with deep := s.deep + 1 }, i1, 3, rfl, by simp [pObj, a2_1, b2_1, a3_2, b3_2, a3_1, b3_1], ok.at_, ?_⟩
    simp only [panS, panD, true_and]
    refine ⟨rfl, ?_⟩
    show leav dIn [] (some (stopD _ 3)) _ _
    simp only [leav_nil, finD]
    exact mid_pan (s' := { s with deep := s.deep + 1 }) (by simp [pObj, a2_1, b2_1, a3_2, b3_2, a3_1, b3_1]) hw
  · have g : (s.deep + 1 > 40) = False := eq_false c
    rw [if_neg c, wpR_ok] at hw
    have okd := deepIn ok c
    simp only [pOff, wpR_bind, wpR_ok] at hw
    simp (config := {maxSteps := 1000000}) only [g, w1, hp, a2_1, b2_1, a3_2, b3_2, a3_1, b3_1, len_enc, enc_ok, enc_unnil, part_enc, take5, set5, setE, retD_ret, retD_normal, leav_nil, leav_func, finD, tbG_e, tb64p_e, zzK, seval]
    generalize hsd : ({ s with deep := s.deep + 1 } : PS) = sd at *
    have hde : sd.deep = s.deep + 1 := by rw [← hsd]
    refine ⟨l, sd, i1, rfl, hl, by rw [← hsd]; simp [pObj, a2_1, b2_1, a3_2, b3_2, a3_1, b3_1], okd, wpR_mono' (fun n s1p en k ok1 => ?_) (fun a e k s' => ?_) hw⟩
    case refine_2 =>
      simp only [panD, leav_func, leav_nil, List.nil_append, List.append_nil]
      refine ⟨rfl, i3, i1, l, s', rfl, by simp [a2_1, b2_1, a3_2, b3_2, a3_1, b3_1], by simp [a2_1, b2_1, a3_2, b3_2, a3_1, b3_1], ?_⟩
      simp only [finD]
      exact mid_pan (s' := { s' with deep := IntKind.i64.wrap (s'.deep - 1) }) (by simp [a2_1, b2_1, a3_2, b3_2, a3_1, b3_1]) k
    have d1 := (hG l).unary sd n s1p en
    rw [hde] at d1
    simp (config := {maxSteps := 1000000}) only [hp, a2_1, b2_1, a3_2, b3_2, a3_1, b3_1, len_enc, enc_ok, enc_unnil, part_enc, take5, set5, setE, retD_ret, retD_normal, leav_nil, leav_func, finD, tbG_e, tb64p_e, zzK, seval]
    intro i4 a4_3 b4_3 a4_2 b4_2 a4_1 b4_1
    refine run_loopD (X := Nat × Nd × PS) [⟨.func 103, [.ptr i3 1 0], []⟩] (fun z => [(0, .ptr i1 1 0), (1, .int .i64 least), (4, .ptr i2 1 0), (5, .ptr i4 1 0)])
      (fun z => (((AHeap.emp.set i1 (pObj l z.2.2)).set i2 (.cells [.int .i64 0, .int .i64 0, .str [], .int .i64 0, .nilsl])).set i3 (.cells [.ptr i1 1 0])).set i4 (.cells z.2.1.enc)) (fun z => z.1)
      (fun z => PSok l z.2.2 ∧ z.2.2.deep = s.deep + 1 ∧ wpR (exprL l (G l) least z.1 z.2.1 z.2.2) (fun x s' => PSok l { s' with deep := s'.deep - 1 } → K0 x { s' with deep := s'.deep - 1 }) E0)
      (l.length + 1, n, s1p) ⟨ok1, d1, k⟩ (by simp only [tb64p_e, zzK, seval]) (AHeap.sub_refl _) ?_
    clear hw hsd en k ok1 d1 n s1p hde okd
    rintro ⟨j, n, s0p⟩ Q ⟨ok0, d0, hw⟩ hQ
    simp only at ok0 d0 hw hQ ⊢
    cases j with
    | zero => exact hw.elim
    | succ j =>
    unfold exprL at hw
    simp (config := {maxSteps := 1000000}) only [hp, a2_1, b2_1, a3_2, b3_2, a3_1, b3_1, a4_3, b4_3, a4_2, b4_2, a4_1, b4_1, len_enc, enc_ok, enc_unnil, part_enc, take5, set5, setE, retD_ret, retD_normal, leav_nil, leav_func, finD, tbG_e, tb64p_e, zzK, seval]
    refine ⟨l, s0p, i1, rfl, (by simp [a2_1, b2_1, a3_2, b3_2, a3_1, b3_1, a4_3, b4_3, a4_2, b4_2, a4_1, b4_1]), ok0.at_, ?_⟩
    have hst := pStep_ok hl.lo ok0
    have w2 : IntKind.i64.wrap (s0p.pos + 1) = s0p.pos + 1 := wrap_i64 (by have := ok0.p0p; omega) (by have := ok0.p1p; have := hl.lo.len; omega)
    generalize ht : pNow l s0p = t at *
    obtain ⟨kk, y, a⟩ := t
    simp only at hw hst
    have hq : q132p [.str y] = some (.int .i64 (rankF y)) := rfl
    simp only [tokD]
    simp (config := {maxSteps := 1000000}) only [hq, pObj, hp, a2_1, b2_1, a3_2, b3_2, a3_1, b3_1, a4_3, b4_3, a4_2, b4_2, a4_1, b4_1, len_enc, enc_ok, enc_unnil, part_enc, take5, set5, setE, retD_ret, retD_normal, leav_nil, leav_func, finD, tbG_e, tb64p_e, zzK, seval]
    intro i5 a5_4 b5_4 a5_3 b5_3 a5_2 b5_2 a5_1 b5_1
    -- the end
    have fin : ∀ (h : AHeap) (D1 : List D), wpR (.ok n s0p : PR Nd) (fun x s' => PSok l { s' with deep := s'.deep - 1 } → K0 x { s' with deep := s'.deep - 1 }) E0 → K0 n { s0p with deep := s0p.deep - 1 } := fun _ _ h => h (deepOk ok ok0 d0).1
    have wd := (deepOk ok ok0 d0).2
    cases c5p : (kk != 5) with
    | true =>
      rw [c5p, Bool.true_or, cond_true] at hw
      have hw := fin .emp [] hw
      simp (config := {maxSteps := 1000000}) only [c5p, hq, pObj, hp, a2_1, b2_1, a3_2, b3_2, a3_1, b3_1, a4_3, b4_3, a4_2, b4_2, a4_1, b4_1, a5_4, b5_4, a5_3, b5_3, a5_2, b5_2, a5_1, b5_1, len_enc, enc_ok, enc_unnil, part_enc, take5, set5, setE, retD_ret, retD_normal, leav_nil, leav_func, finD, tbG_e, tb64p_e, zzK, seval]
      refine ⟨rfl, i3, i1, l, s0p, rfl, by simp [a2_1, b2_1, a3_2, b3_2, a3_1, b3_1, a4_3, b4_3, a4_2, b4_2, a4_1, b4_1, a5_4, b5_4, a5_3, b5_3, a5_2, b5_2, a5_1, b5_1], by simp [pObj, a2_1, b2_1, a3_2, b3_2, a3_1, b3_1, a4_3, b4_3, a4_2, b4_2, a4_1, b4_1, a5_4, b5_4, a5_3, b5_3, a5_2, b5_2, a5_1, b5_1], ?_⟩
      rw [wd]
      simp (config := {maxSteps := 1000000}) only [c5p, hq, hp, a2_1, b2_1, a3_2, b3_2, a3_1, b3_1, a4_3, b4_3, a4_2, b4_2, a4_1, b4_1, a5_4, b5_4, a5_3, b5_3, a5_2, b5_2, a5_1, b5_1, len_enc, enc_ok, enc_unnil, part_enc, take5, set5, setE, retD_ret, retD_normal, leav_nil, leav_func, finD, tbG_e, tb64p_e, zzK, seval]
      exact mid_ret (x := n) (s' := { s0p with deep := s0p.deep - 1 }) rfl (by simp [a2_1, b2_1, a3_2, b3_2, a3_1, b3_1, a4_3, b4_3, a4_2, b4_2, a4_1, b4_1, a5_4, b5_4, a5_3, b5_3, a5_2, b5_2, a5_1, b5_1]) hw
    | false =>
    have e5 : kk = 5 := by simpa using c5p
    have ok' := hst (by omega)
    rw [c5p, Bool.false_or] at hw
    by_cases cr : rankF y ≤ least
    · have gr : (rankF y ≤ least) = True := eq_true cr
      rw [show decide (rankF y ≤ least) = true by simpa using cr, cond_true] at hw
      have hw := fin .emp [] hw
      simp (config := {maxSteps := 1000000}) only [c5p, hq, gr, pObj, hp, a2_1, b2_1, a3_2, b3_2, a3_1, b3_1, a4_3, b4_3, a4_2, b4_2, a4_1, b4_1, a5_4, b5_4, a5_3, b5_3, a5_2, b5_2, a5_1, b5_1, len_enc, enc_ok, enc_unnil, part_enc, take5, set5, setE, retD_ret, retD_normal, leav_nil, leav_func, finD, tbG_e, tb64p_e, zzK, seval]
      refine ⟨rfl, i3, i1, l, s0p, rfl, by simp [a2_1, b2_1, a3_2, b3_2, a3_1, b3_1, a4_3, b4_3, a4_2, b4_2, a4_1, b4_1, a5_4, b5_4, a5_3, b5_3, a5_2, b5_2, a5_1, b5_1], by simp [pObj, a2_1, b2_1, a3_2, b3_2, a3_1, b3_1, a4_3, b4_3, a4_2, b4_2, a4_1, b4_1, a5_4, b5_4, a5_3, b5_3, a5_2, b5_2, a5_1, b5_1], ?_⟩
      rw [wd]
      simp (config := {maxSteps := 1000000}) only [c5p, hq, hp, a2_1, b2_1, a3_2, b3_2, a3_1, b3_1, a4_3, b4_3, a4_2, b4_2, a4_1, b4_1, a5_4, b5_4, a5_3, b5_3, a5_2, b5_2, a5_1, b5_1, len_enc, enc_ok, enc_unnil, part_enc, take5, set5, setE, retD_ret, retD_normal, leav_nil, leav_func, finD, tbG_e, tb64p_e, zzK, seval]
      exact mid_ret (x := n) (s' := { s0p with deep := s0p.deep - 1 }) rfl (by simp [a2_1, b2_1, a3_2, b3_2, a3_1, b3_1, a4_3, b4_3, a4_2, b4_2, a4_1, b4_1, a5_4, b5_4, a5_3, b5_3, a5_2, b5_2, a5_1, b5_1]) hw
    · have gr : (rankF y ≤ least) = False := eq_false cr
      rw [show decide (rankF y ≤ least) = false by simpa using cr, cond_false, wpR_bind] at hw
      simp (config := {maxSteps := 1000000}) only [c5p, hq, gr, pObj, w2, hp, a2_1, b2_1, a3_2, b3_2, a3_1, b3_1, a4_3, b4_3, a4_2, b4_2, a4_1, b4_1, a5_4, b5_4, a5_3, b5_3, a5_2, b5_2, a5_1, b5_1, len_enc, enc_ok, enc_unnil, part_enc, take5, set5, setE, retD_ret, retD_normal, leav_nil, leav_func, finD, tbG_e, tb64p_e, zzK, seval]
      refine ⟨l, pStep s0p, i1, rankF y, rfl, hl, by simp [pObj, pStep, a2_1, b2_1, a3_2, b3_2, a3_1, b3_1, a4_3, b4_3, a4_2, b4_2, a4_1, b4_1, a5_4, b5_4, a5_3, b5_3, a5_2, b5_2, a5_1, b5_1], ok', wpR_mono' (fun r s2p er k ok2 => ?_) (fun a e k s' => ?_) hw⟩
      case refine_2 =>
        intro σ hσ
        simp only [panD]
        rw [hσ]
        show leav dIn [⟨.func 103, [.ptr i3 1 0], []⟩] _ _ _
        simp only [leav_func, leav_nil, List.nil_append]
        refine ⟨rfl, i3, i1, l, s', rfl, by simp [a2_1, b2_1, a3_2, b3_2, a3_1, b3_1, a4_3, b4_3, a4_2, b4_2, a4_1, b4_1, a5_4, b5_4, a5_3, b5_3, a5_2, b5_2, a5_1, b5_1], by simp [a2_1, b2_1, a3_2, b3_2, a3_1, b3_1, a4_3, b4_3, a4_2, b4_2, a4_1, b4_1, a5_4, b5_4, a5_3, b5_3, a5_2, b5_2, a5_1, b5_1], ?_⟩
        simp only [finD]
        exact mid_pan (s' := { s' with deep := IntKind.i64.wrap (s'.deep - 1) }) (by simp [a2_1, b2_1, a3_2, b3_2, a3_1, b3_1, a4_3, b4_3, a4_2, b4_2, a4_1, b4_1, a5_4, b5_4, a5_3, b5_3, a5_2, b5_2, a5_1, b5_1]) k
      have d2 : s2p.deep = s.deep + 1 := ((hG l).expr _ _ r s2p er).trans d0
      rw [wpR_bind] at k
      simp (config := {maxSteps := 1000000}) only [encN, hp, a2_1, b2_1, a3_2, b3_2, a3_1, b3_1, a4_3, b4_3, a4_2, b4_2, a4_1, b4_1, a5_4, b5_4, a5_3, b5_3, a5_2, b5_2, a5_1, b5_1, len_enc, enc_ok, enc_unnil, part_enc, take5, set5, setE, retD_ret, retD_normal, leav_nil, leav_func, finD, tbG_e, tb64p_e, zzK, seval]
      refine .inl ⟨l, s2p, i1, .mk 26 0 y 0 [n, r], by simp only [enc_mk, encs_cons, encs_nil], hl.lo, (by simp [a2_1, b2_1, a3_2, b3_2, a3_1, b3_1, a4_3, b4_3, a4_2, b4_2, a4_1, b4_1, a5_4, b5_4, a5_3, b5_3, a5_2, b5_2, a5_1, b5_1]), ok2, wpR_mono' (fun n2 s3p en k ok3 => ?_) (fun a e k s' => ?_) k⟩
      case refine_2 =>
        intro σ hσ
        simp only [panD]
        rw [hσ]
        show leav dIn [⟨.func 103, [.ptr i3 1 0], []⟩] _ _ _
        simp only [leav_func, leav_nil, List.nil_append]
        refine ⟨rfl, i3, i1, l, s', rfl, by simp [a2_1, b2_1, a3_2, b3_2, a3_1, b3_1, a4_3, b4_3, a4_2, b4_2, a4_1, b4_1, a5_4, b5_4, a5_3, b5_3, a5_2, b5_2, a5_1, b5_1], by simp [a2_1, b2_1, a3_2, b3_2, a3_1, b3_1, a4_3, b4_3, a4_2, b4_2, a4_1, b4_1, a5_4, b5_4, a5_3, b5_3, a5_2, b5_2, a5_1, b5_1], ?_⟩
        simp only [finD]
        exact mid_pan (s' := { s' with deep := IntKind.i64.wrap (s'.deep - 1) }) (by simp [a2_1, b2_1, a3_2, b3_2, a3_1, b3_1, a4_3, b4_3, a4_2, b4_2, a4_1, b4_1, a5_4, b5_4, a5_3, b5_3, a5_2, b5_2, a5_1, b5_1]) k
      have d3 : s3p.deep = s.deep + 1 := (keeps_pNode n2 s3p en).trans d2
      simp (config := {maxSteps := 1000000}) only [encN, hp, a2_1, b2_1, a3_2, b3_2, a3_1, b3_1, a4_3, b4_3, a4_2, b4_2, a4_1, b4_1, a5_4, b5_4, a5_3, b5_3, a5_2, b5_2, a5_1, b5_1, len_enc, enc_ok, enc_unnil, part_enc, take5, set5, setE, retD_ret, retD_normal, leav_nil, leav_func, finD, tbG_e, tb64p_e, zzK, seval]
      refine hQ (j, n2, s3p) _ _ ⟨ok3, d3, k⟩ (by simp only [tb64p_e, zzK, seval]) ?_ (by simp only; omega)
      simp only
      exact AHeap.sub_X (by repeat' first | with_reducible exact AHeap.subX_refl | with_reducible exact AHeap.subX_emp | refine AHeap.subX_l (by simp [a2_1, b2_1, a3_2, b3_2, a3_1, b3_1, a4_3, b4_3, a4_2, b4_2, a4_1, b4_1, a5_4, b5_4, a5_3, b5_3, a5_2, b5_2, a5_1, b5_1]) ?_ | refine AHeap.subX_r (by simp [a2_1, b2_1, a3_2, b3_2, a3_1, b3_1, a4_3, b4_3, a4_2, b4_2, a4_1, b4_1, a5_4, b5_4, a5_3, b5_3, a5_2, b5_2, a5_1, b5_1]) ?_)
end
end Go.Proofs.YtpagdhbmbnoddaaGreatDoor.Zz
