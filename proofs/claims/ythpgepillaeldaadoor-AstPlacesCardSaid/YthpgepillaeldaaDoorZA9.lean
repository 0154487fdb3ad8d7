/- Contracts: the tree of a list. -/
import Derived.Test.YthpgepillaeldaaDoorZA8
set_option linter.unnecessarySimpa false
namespace Go.Proofs.YthpgepillaeldaaDoor.Zz
noncomputable section
set_option linter.unusedVariables false
set_option linter.unusedSimpArgs false
set_option maxRecDepth 20000
def p43n : Plan := ⟨⟨[], [], [], [], [], []⟩, [], [], false⟩
/-- cupel/cupellaw10.made (3 parameters, 0 captured) -/
def s43n : Stm :=
  .seq (.ops [⟨.alloc [(.int .i64 0), (.int .i64 0), (.str []), (.int .i64 0), .nilsl], (some 6), none, false⟩,
     ⟨.mov (.c (.int .i64 0)), (some 7), none, true⟩])
  (.seq (.seq (.ops [⟨.mov (.t 1), (some 14), none, true⟩,
      ⟨.mov (.t 0), (some 15), none, true⟩,
      ⟨.len .sl (.t 15), (some 16), none, false⟩,
      ⟨.bin .geq (.t 14) (.t 16), (some 17), none, true⟩])
   (.cond (.t 17)
    (.seq (.ops [⟨.build [(.int .i64 0), (.int .i64 0), (.str []), (.int .i64 0), .nilsl] [(0, 1, (.c (.int .i64 14)))], (some 18), none, true⟩,
        ⟨.mov (.t 1), (some 19), none, true⟩,
        ⟨.store 5 (.t 6) (.t 18), none, none, false⟩,
        ⟨.mov (.t 19), (some 7), none, true⟩])
     (.ret))
    (.skip)))
  (.seq (.ops [⟨.mov (.t 0), (some 20), none, true⟩,
     ⟨.mov (.t 1), (some 21), none, true⟩,
     ⟨.indexAddrS 5 (.t 20) (.t 21), (some 22), none, false⟩,
     ⟨.load (some 5) (.t 22), (some 23), none, false⟩,
     ⟨.alloc [(.int .i64 0), (.int .i64 0), (.str []), (.int .i64 0), (.int .i64 0)], (some 8), none, false⟩,
     ⟨.store 5 (.t 8) (.t 23), none, none, false⟩])
  (.seq (.ops [⟨.fieldAddr 2 (.t 8), (some 24), none, true⟩,
     ⟨.load none (.t 24), (some 25), none, false⟩,
     ⟨.mov (.t 25), (some 9), none, true⟩])
  (.seq (.seq (.ops [⟨.mov (.t 9), (some 26), none, true⟩,
      ⟨.len .str (.t 26), (some 27), none, false⟩,
      ⟨.bin .gtr (.t 27) (.c (.int .i64 64)), (some 28), none, true⟩])
   (.cond (.t 28)
    (.ops [⟨.mov (.t 9), (some 29), none, true⟩,
       ⟨.slice .str (.t 29) none (some (.c (.int .i64 64))) none, (some 30), none, false⟩,
       ⟨.mov (.t 30), (some 9), none, true⟩])
    (.skip)))
  (.seq (.ops [⟨.fieldAddr 0 (.t 8), (some 31), none, true⟩,
     ⟨.load none (.t 31), (some 32), none, false⟩,
     ⟨.bin .and (.t 32) (.c (.int .i64 31)), (some 33), none, true⟩,
     ⟨.fieldAddr 1 (.t 8), (some 34), none, true⟩,
     ⟨.load none (.t 34), (some 35), none, false⟩,
     ⟨.bin .and (.t 35) (.c (.int .i64 3)), (some 36), none, true⟩,
     ⟨.mov (.t 9), (some 37), none, true⟩,
     ⟨.fieldAddr 3 (.t 8), (some 38), none, true⟩,
     ⟨.load none (.t 38), (some 39), none, false⟩,
     ⟨.build [(.int .i64 0), (.int .i64 0), (.str []), (.int .i64 0), .nilsl] [(0, 1, (.t 33)), (1, 1, (.t 36)), (2, 1, (.t 37)), (3, 1, (.t 39))], (some 40), none, true⟩,
     ⟨.alloc [(.int .i64 0), (.int .i64 0), (.str []), (.int .i64 0), .nilsl], (some 10), none, false⟩,
     ⟨.store 5 (.t 10) (.t 40), none, none, false⟩])
  (.seq (.ops [⟨.mov (.t 1), (some 41), none, true⟩,
     ⟨.bin .add (.t 41) (.c (.int .i64 1)), (some 42), none, true⟩,
     ⟨.mov (.t 42), (some 1), none, true⟩])
  (.seq (.seq (.ops [⟨.fieldAddr 4 (.t 8), (some 43), none, true⟩,
      ⟨.load none (.t 43), (some 44), none, false⟩,
      ⟨.bin .and (.t 44) (.c (.int .i64 7)), (some 45), none, true⟩,
      ⟨.mov (.t 45), (some 11), none, true⟩])
   (.block 0 (.loop (.seq (.seq (.ops [⟨.mov (.t 11), (some 46), none, true⟩,
         ⟨.bin .gtr (.t 46) (.c (.int .i64 0)), (some 47), none, true⟩,
         ⟨.mov (.t 47), (some 48), none, true⟩,
         ⟨.mov (.t 1), (some 49), (some (48, true)), true⟩,
         ⟨.mov (.t 0), (some 50), (some (48, true)), true⟩,
         ⟨.len .sl (.t 50), (some 51), (some (48, true)), false⟩,
         ⟨.bin .lss (.t 49) (.t 51), (some 52), (some (48, true)), true⟩,
         ⟨.pick (.t 48) (.t 52) (.c (.bool false)), (some 53), none, true⟩,
         ⟨.mov (.t 53), (some 54), none, true⟩,
         ⟨.mov (.t 2), (some 55), (some (54, true)), true⟩,
         ⟨.bin .lss (.t 55) (.c (.int .i64 60)), (some 56), (some (54, true)), true⟩,
         ⟨.pick (.t 54) (.t 56) (.c (.bool false)), (some 57), none, true⟩])
      (.cond (.t 57)
       (.skip)
       (.exit 0)))
     (.seq (.block 1 (.seq (.ops [⟨.mov (.t 0), (some 61), none, true⟩,
          ⟨.mov (.t 1), (some 62), none, true⟩,
          ⟨.mov (.t 2), (some 63), none, true⟩,
          ⟨.bin .add (.t 63) (.c (.int .i64 1)), (some 64), none, true⟩,
          ⟨.qcall (.f 43) [(.t 61), (.t 62), (.t 64)], (some 65), none, false⟩,
          ⟨.mov (.t 65), (some 60), none, true⟩,
          ⟨.extract (.t 60) 0, (some 66), none, true⟩,
          ⟨.extract (.t 60) 1, (some 67), none, true⟩,
          ⟨.alloc [(.int .i64 0), (.int .i64 0), (.str []), (.int .i64 0), .nilsl], (some 12), none, false⟩,
          ⟨.store 5 (.t 12) (.t 66), none, none, false⟩,
          ⟨.mov (.t 67), (some 13), none, true⟩])
       (.seq (.ops [⟨.fieldAddr 4 (.t 10), (some 68), none, true⟩,
          ⟨.load none (.t 68), (some 69), none, false⟩,
          ⟨.load (some 5) (.t 12), (some 70), none, false⟩,
          ⟨.buildSlice 5 [(.int .i64 0), (.int .i64 0), (.str []), (.int .i64 0), .nilsl] 1 [(0, (.t 70))] false, (some 71), none, true⟩,
          ⟨.append 5 64 false (.t 69) (.t 71), (some 72), none, false⟩,
          ⟨.fieldAddr 4 (.t 10), (some 73), none, true⟩,
          ⟨.store 1 (.t 73) (.t 72), none, none, false⟩])
       (.ops [⟨.mov (.t 13), (some 74), none, true⟩,
         ⟨.mov (.t 74), (some 1), none, true⟩]))))
     (.ops [⟨.mov (.t 11), (some 58), none, true⟩,
       ⟨.bin .sub (.t 58) (.c (.int .i64 1)), (some 59), none, true⟩,
       ⟨.mov (.t 59), (some 11), none, true⟩]))))))
  (.seq (.ops [⟨.load (some 5) (.t 10), (some 75), none, false⟩,
     ⟨.mov (.t 1), (some 76), none, true⟩,
     ⟨.store 5 (.t 6) (.t 75), none, none, false⟩,
     ⟨.mov (.t 76), (some 7), none, true⟩])
  (.ret)))))))))
theorem st43n : stmOf Tryd.prog 43 p43n = some (s43n, [.cell 6 (some 5), .tmp 7], 77) := by kernel_rfl

def p15n : Plan := ⟨⟨[], [], [], [], [], []⟩, [], [], false⟩
/-- cupel/cupellaw10.Made (1 parameters, 0 captured) -/
def s15n : Stm :=
  .seq (.ops [⟨.alloc [(.int .i64 0), (.int .i64 0), (.str []), (.int .i64 0), .nilsl], (some 2), none, false⟩])
  (.seq (.seq (.ops [⟨.mov (.t 0), (some 5), none, true⟩,
      ⟨.len .sl (.t 5), (some 6), none, false⟩,
      ⟨.bin .gtr (.t 6) (.c (.int .i64 300)), (some 7), none, true⟩])
   (.cond (.t 7)
    (.ops [⟨.mov (.t 0), (some 8), none, true⟩,
       ⟨.slice (.sl 5) (.t 8) none (some (.c (.int .i64 300))) none, (some 9), none, false⟩,
       ⟨.mov (.t 9), (some 0), none, true⟩])
    (.skip)))
  (.seq (.ops [⟨.mov (.t 0), (some 11), none, true⟩,
     ⟨.qcall (.f 43) [(.t 11), (.c (.int .i64 0)), (.c (.int .i64 0))], (some 12), none, false⟩,
     ⟨.mov (.t 12), (some 10), none, true⟩,
     ⟨.extract (.t 10) 0, (some 13), none, true⟩,
     ⟨.extract (.t 10) 1, (some 14), none, true⟩,
     ⟨.alloc [(.int .i64 0), (.int .i64 0), (.str []), (.int .i64 0), .nilsl], (some 3), none, false⟩,
     ⟨.store 5 (.t 3) (.t 13), none, none, false⟩,
     ⟨.mov (.t 14), (some 4), none, true⟩])
  (.seq (.ops [⟨.load (some 5) (.t 3), (some 15), none, false⟩,
     ⟨.store 5 (.t 2) (.t 15), none, none, false⟩])
  (.ret))))
theorem st15n : stmOf Tryd.prog 15 p15n = some (s15n, [.cell 2 (some 5)], 16) := by kernel_rfl

/-- A row of a list. -/
structure Tr where
  k : Int
  t : Int
  s : List UInt8
  n : Int
  c : Int
def encT5 (x : Tr) : List D := [.int .i64 x.k, .int .i64 x.t, .str x.s, .int .i64 x.n, .int .i64 x.c]
def encTs (l : List Tr) : List (List D) := l.map encT5
theorem encT5_inj (x y : Tr) (h : encT5 x = encT5 y) : x = y := by
  cases x; cases y
  simpa [encT5] using h
theorem encTs_inj {l r : List Tr} (h : encTs l = encTs r) : l = r := map_inj_of (fun x _ y e => encT5_inj x y e) h
open Classical in
def decTs (ds : List (List D)) : Option (List Tr) := if h : ∃ l, encTs l = ds then some h.choose else none
theorem decTs_enc (x : List Tr) : decTs (encTs x) = some x := by
  unfold decTs
  have h : ∃ l, encTs l = encTs x := ⟨x, rfl⟩
  rw [dif_pos h]
  exact congrArg some (encTs_inj h.choose_spec)
theorem decTs_some {ds : List (List D)} {x : List Tr} (h : decTs ds = some x) : ds = encTs x := by
  unfold decTs at h
  split at h
  · rename_i hx
    cases h
    exact hx.choose_spec.symm
  · cases h
theorem len_encTs (l : List Tr) : (encTs l).length = l.length := List.length_map ..
theorem askE_encTs {K : D → AHeap → Prop} {h : AHeap} {l : List Tr} {i : Nat} {x : Tr} (e : l[i]? = some x) : askE 5 K h (encTs l) (i : Int) = K (.eptr (encT5 x) 0) h := by
  have h1 := (List.getElem?_eq_some_iff.1 e).1
  have h2 : (0 ≤ (i : Int) ∧ (i : Int) < ((encTs l).length : Int)) := by rw [len_encTs]; omega
  have h3 : (encTs l)[i]? = some (encT5 x) := by rw [encTs, List.getElem?_map, e]; rfl
  simp only [askE, h2, Int.toNat_natCast, h3, Option.some.injEq]
  apply propext
  constructor
  · intro k; exact (k.2 _ rfl).2
  · intro k; exact ⟨by simp, fun y hy => by rw [← hy]; exact ⟨rfl, k⟩⟩
theorem encTs_take (l : List Tr) (n : Nat) : (encTs l).take n = encTs (l.take n) := by simp [encTs]
/-- Lowest bits. -/
def lowB (x : Int) (m : Nat) : Nat := (x % (2 ^ m : Nat)).toNat
def skipN : Nd := .mk 14 0 [] 0 []
/-- So many kids of a list. -/
def madeL (g : List Tr → Nd × List Tr) (deep : Nat) : Nat → List Tr → List Nd → List Nd × List Tr
  | 0, l, acc => (acc, l)
  | c + 1, l, acc => if l ≠ [] ∧ deep < 60 then madeL g deep c (g l).2 (acc ++ [(g l).1]) else (acc, l)
def madeF : Nat → List Tr → Nat → Nd × List Tr
  | 0, l, _ => (skipN, l)
  | _ + 1, [], _ => (skipN, [])
  | f + 1, x :: l, deep =>
    (.mk (lowB x.k 5) (lowB x.t 2) (x.s.take 64) x.n (madeL (fun l => madeF f l (deep + 1)) deep (lowB x.c 3) l []).1, (madeL (fun l => madeF f l (deep + 1)) deep (lowB x.c 3) l []).2)
theorem madeF_zero (l : List Tr) (d : Nat) : madeF 0 l d = (skipN, l) := by rw [madeF]
theorem madeF_nil (f : Nat) (d : Nat) : madeF (f + 1) [] d = (skipN, []) := by rw [madeF]
theorem madeF_cons (f : Nat) (x : Tr) (l : List Tr) (deep : Nat) : madeF (f + 1) (x :: l) deep = (.mk (lowB x.k 5) (lowB x.t 2) (x.s.take 64) x.n (madeL (fun l => madeF f l (deep + 1)) deep (lowB x.c 3) l []).1, (madeL (fun l => madeF f l (deep + 1)) deep (lowB x.c 3) l []).2) := by rw [madeF]
/-- What is left is what stands behind. -/
theorem madeL_suf {g : List Tr → Nd × List Tr} {d : Nat} (hg : ∀ l, (g l).2 <:+ l) : ∀ (c : Nat) (l : List Tr) (acc : List Nd), (madeL g d c l acc).2 <:+ l
  | 0, l, acc => List.suffix_refl l
  | c + 1, l, acc => by
    unfold madeL
    split
    · exact (madeL_suf hg c _ _).trans (hg l)
    · exact List.suffix_refl l
theorem madeF_suf (f : Nat) : ∀ (l : List Tr) (d : Nat), (madeF f l d).2 <:+ l := by
  induction f with
  | zero => intro l d; rw [madeF_zero]; exact List.suffix_refl l
  | succ f ih =>
    intro l d
    cases l with
    | nil => rw [madeF_nil]; exact List.suffix_refl _
    | cons x l =>
      rw [madeF_cons]
      exact (madeL_suf (fun l => ih l (d + 1)) _ _ _).trans (List.suffix_cons x l)
theorem and_lowN (x : Int) (m b : Nat) (hb : b = 2 ^ m - 1) (hm : m < 63) : IntKind.i64.wrap ((BitVec.ofInt IntKind.i64.bits x &&& BitVec.ofInt IntKind.i64.bits (b : Int)).toNat : Int) = (lowB x m : Int) := by
  have hp : 2 ^ m < 2 ^ 63 := Nat.pow_lt_pow_right (by decide) hm
  have hp0 : 0 < 2 ^ m := Nat.two_pow_pos m
  have e1 : (BitVec.ofInt IntKind.i64.bits (b : Int)).toNat = 2 ^ m - 1 := by
    rw [BitVec.toNat_ofInt, hb]
    simp only [IntKind.bits]
    have : ((2 ^ m - 1 : Nat) : Int) % (2 ^ 64 : Nat) = ((2 ^ m - 1 : Nat) : Int) := Int.emod_eq_of_lt (by omega) (by omega)
    rw [this]; exact Int.toNat_natCast _
  have hd : ((2 ^ m : Nat) : Int) ∣ ((2 ^ 64 : Nat) : Int) := by
    refine ⟨((2 ^ (64 - m) : Nat) : Int), ?_⟩
    rw [← Int.natCast_mul, ← Nat.pow_add]
    congr 2; omega
  have e2 : (BitVec.ofInt IntKind.i64.bits x).toNat % 2 ^ m = lowB x m := by
    rw [BitVec.toNat_ofInt]
    simp only [IntKind.bits, lowB]
    have h0 := Int.emod_nonneg x (b := ((2 ^ 64 : Nat) : Int)) (by decide)
    have h1 := Int.emod_nonneg x (b := ((2 ^ m : Nat) : Int)) (by omega)
    have h2 := Int.emod_emod_of_dvd x hd
    apply Int.ofNat_inj.1
    rw [Int.natCast_emod, Int.toNat_of_nonneg h0, Int.toNat_of_nonneg h1]
    exact h2
  rw [BitVec.toNat_and, e1, Nat.and_two_pow_sub_one_eq_mod, e2]
  have : lowB x m < 2 ^ m := by rw [← e2]; exact Nat.mod_lt _ hp0
  exact wrap_nat (by omega)
theorem and_31 (x : Int) : IntKind.i64.wrap ((BitVec.ofInt IntKind.i64.bits x &&& BitVec.ofInt IntKind.i64.bits 31).toNat : Int) = (lowB x 5 : Int) := and_lowN x 5 31 (by decide) (by omega)
theorem and_3 (x : Int) : IntKind.i64.wrap ((BitVec.ofInt IntKind.i64.bits x &&& BitVec.ofInt IntKind.i64.bits 3).toNat : Int) = (lowB x 2 : Int) := and_lowN x 2 3 (by decide) (by omega)
theorem and_7 (x : Int) : IntKind.i64.wrap ((BitVec.ofInt IntKind.i64.bits x &&& BitVec.ofInt IntKind.i64.bits 7).toNat : Int) = (lowB x 3 : Int) := and_lowN x 3 7 (by decide) (by omega)
theorem lowB_lt (x : Int) (m : Nat) : lowB x m < 2 ^ m := by
  have hp0 : 0 < 2 ^ m := Nat.two_pow_pos m
  unfold lowB
  have h1 := Int.emod_nonneg x (b := ((2 ^ m : Nat) : Int)) (by omega)
  have h2 := Int.emod_lt_of_pos x (b := ((2 ^ m : Nat) : Int)) (by omega)
  omega
def qMade (f : Nat) : List D → Option D
  | [.sl ds, .int .i64 at', .int .i64 deep] => match decTs ds with
    | some l => if 0 ≤ at' ∧ at' ≤ l.length ∧ l.length - at' < f ∧ l.length < 1000000 ∧ 0 ≤ deep ∧ deep ≤ 100 then some (.tuple [.agg (madeF f (l.drop at'.toNat) deep.toNat).1.enc, .int .i64 (l.length - (madeF f (l.drop at'.toNat) deep.toNat).2.length)]) else none
    | none => none
  | _ => none
set_option maxHeartbeats 1000000 in
theorem made_step (f : Nat) (hT : (Tab.zero.addQ 43 (qMade f)).ok Tryd.prog) (l : List Tr) (a deep : Nat) (h1 : a ≤ l.length) (h2 : l.length - a < f + 1) (h3 : l.length < 1000000) (h4 : deep ≤ 100) :
    PCall Tryd.prog 43 [.sl (encTs l), .int .i64 a, .int .i64 deep] (.tuple [.agg (madeF (f + 1) (l.drop a) deep).1.enc, .int .i64 (l.length - (madeF (f + 1) (l.drop a) deep).2.length)]) := by
  refine PCall.run hT st43n (by simp) fun E => ?_
  have hT_q : ∀ g args, (Tab.zero.addQ 43 (qMade f)).q g args = if g = 43 then qMade f args else Tab.zero.q g args := fun g args => rfl
  generalize Tab.zero.addQ 43 (qMade f) = TT at hT_q ⊢
  cases c : decide (a < l.length) with
  | false =>
    have e0 : a = l.length := by simp at c; omega
    have g : ((a : Int) ≥ (l.length : Int)) = True := eq_true (by omega)
    rw [e0, List.drop_length, madeF_nil]
    simp (config := {maxSteps := 1000000}) only [s43n, skipN, enc_mk, encs_nil, len_encTs, g, hT_q, i_callNe, Int.natCast_nonneg, Nat.le_refl, Int.le_refl, List.take_succ_cons, List.take_zero, decide_true, decide_false, Bool.and_false, Bool.false_and, zz, zzN, zzF, zzD, zzM, cond_true, cond_false, ↓reduceIte, Nat.reduceEqDiff, Nat.reduceBEq, Int.reduceLT, Int.reduceLE, Int.reduceToNat, Int.reduceEq, Int.reduceAdd, Int.reduceSub, Int.reduceMul, Int.reduceNeg, Nat.reduceMul, Nat.reduceSub, Nat.reduceLeDiff, Nat.reduceLT, Int.reduceGT, Int.reduceGE, Int.reduceBEq, Int.reduceBNe, reduceCtorEq, Nat.reduceAdd]
    intro _
    exact .inr (by omega)
  | true =>
    have c : a < l.length := by simpa using c
    obtain ⟨y, hy⟩ : ∃ y, l[a]? = some y := ⟨_, List.getElem?_eq_getElem c⟩
    have g : ((a : Int) ≥ (l.length : Int)) = False := eq_false (by omega)
    have hac : ∀ (K : D → AHeap → Prop) (h : AHeap), askE 5 K h (encTs l) (a : Int) = K (.eptr (encT5 y) 0) h := fun K h => askE_encTs hy
    have hdr : l.drop a = y :: l.drop (a + 1) := by
      rw [List.drop_eq_getElem_cons c]
      congr 1
      rw [List.getElem?_eq_getElem c] at hy
      exact Option.some.inj hy
    rw [hdr, madeF_cons]
    obtain ⟨yk, yt, ys, yn, yc⟩ := y
    have wa : IntKind.i64.wrap ((a : Int) + 1) = ((a + 1 : Nat) : Int) := wrap_succ (by omega)
    simp only [encT5] at *
    by_cases cs : 64 < ys.length
    · have gs : ((ys.length : Int) > 64) = True := eq_true (by omega)
      simp (config := {maxSteps := 1000000}) only [s43n, enc_mk, len_encTs, g, gs, hac, wa, and_31, and_3, and_7, hT_q, i_callNe, Int.natCast_nonneg, Nat.le_refl, Int.le_refl, List.take_succ_cons, List.take_zero, decide_true, decide_false, Bool.and_false, Bool.false_and, zz, zzN, zzF, zzD, zzM, cond_true, cond_false, ↓reduceIte, Nat.reduceEqDiff, Nat.reduceBEq, Int.reduceLT, Int.reduceLE, Int.reduceToNat, Int.reduceEq, Int.reduceAdd, Int.reduceSub, Int.reduceMul, Int.reduceNeg, Nat.reduceMul, Nat.reduceSub, Nat.reduceLeDiff, Nat.reduceLT, Int.reduceGT, Int.reduceGE, Int.reduceBEq, Int.reduceBNe, reduceCtorEq, Nat.reduceAdd]
      intro i6 hl i8 m1 m2 hs
      refine ⟨by omega, ?_⟩
      intro i10 m3 m4 m5 m6

      simp (config := {maxSteps := 1000000}) only [m1, m2, m3, m4, m5, m6, and_7, hT_q, i_callNe, Int.natCast_nonneg, Nat.le_refl, Int.le_refl, List.take_succ_cons, List.take_zero, decide_true, decide_false, Bool.and_false, Bool.false_and, zz, zzN, zzF, zzD, zzM, cond_true, cond_false, ↓reduceIte, Nat.reduceEqDiff, Nat.reduceBEq, Int.reduceLT, Int.reduceLE, Int.reduceToNat, Int.reduceEq, Int.reduceAdd, Int.reduceSub, Int.reduceMul, Int.reduceNeg, Nat.reduceMul, Nat.reduceSub, Nat.reduceLeDiff, Nat.reduceLT, Int.reduceGT, Int.reduceGE, Int.reduceBEq, Int.reduceBNe, reduceCtorEq, Nat.reduceAdd]
      have b7 := lowB_lt yc 3
      generalize lowB yc 3 = c0n at *
      generalize hG : (fun l => madeF f l (deep + 1)) = G at *
      have hsuf : ∀ l, (G l).2 <:+ l := fun l => by rw [← hG]; exact madeF_suf f l (deep + 1)
      have hcall : ∀ a', a + 1 ≤ a' → a' ≤ l.length → deep < 60 → qMade f [.sl (encTs l), .int .i64 (a' : Int), .int .i64 ((deep + 1 : Nat) : Int)] = some (.tuple [.agg (G (l.drop a')).1.enc, .int .i64 (l.length - (G (l.drop a')).2.length)]) := fun a' q1n q2n q3n => by
        simp only [qMade, decTs_enc]
        rw [if_pos (by omega), ← hG]
        simp only [Int.toNat_natCast]
      generalize hz : madeL G deep c0n (l.drop (a + 1)) [] = z at *
      refine run_loop (X := Nat × Nat × List Nd × Nat × AHeap) (fun z => [(0, .sl (encTs l)), (1, .int .i64 z.2.1), (2, .int .i64 deep), (6, .ptr i6 1 0), (10, .ptr i10 1 0), (11, .int .i64 z.1)]) (fun z => z.2.2.2.2) (fun z => z.1)
        (fun x => madeL G deep x.1 (l.drop x.2.1) x.2.2.1 = z ∧ a + 1 ≤ x.2.1 ∧ x.2.1 ≤ l.length ∧ x.2.2.1.length + x.1 ≤ 8 ∧ x.2.2.2.2.f i6 = some (.cells [.int .i64 0, .int .i64 0, .str [], .int .i64 0, .nilsl]) ∧
          x.2.2.2.2.f i10 = some (.cells [.int .i64 (lowB yk 5), .int .i64 (lowB yt 2), .str (ys.take 64), .int .i64 yn, ownD x.2.2.2.1 x.2.2.1.length]) ∧
          (x.2.2.1.length ≠ 0 → x.2.2.2.1 ≠ i6 ∧ x.2.2.2.1 ≠ i10 ∧ x.2.2.2.2.f x.2.2.2.1 = some (.row 5 (x.2.2.1.length + 2) (Nd.encs x.2.2.1) false))) (c0n, a + 1, [], 0, _) ⟨hz, Nat.le_refl _, c, by simp only [List.length_nil]; omega, ?_, ?_, fun h => absurd rfl h⟩ ?_ (AHeap.sub_refl _) ?_
      · simp only [AHeap.set_f, m1, m2, m3, m4, m5, m6, ↓reduceIte]
      · simp only [AHeap.set_f, m1, m2, m3, m4, m5, m6, List.length_nil, ownD_zero, ↓reduceIte]
      · simp only [i_callNe, Int.natCast_nonneg, Nat.le_refl, Int.le_refl, List.take_succ_cons, List.take_zero, decide_true, decide_false, Bool.and_false, Bool.false_and, zz, zzN, zzF, zzD, zzM, cond_true, cond_false, ↓reduceIte, Nat.reduceEqDiff, Nat.reduceBEq, Int.reduceLT, Int.reduceLE, Int.reduceToNat, Int.reduceEq, Int.reduceAdd, Int.reduceSub, Int.reduceMul, Int.reduceNeg, Nat.reduceMul, Nat.reduceSub, Nat.reduceLeDiff, Nat.reduceLT, Int.reduceGT, Int.reduceGE, Int.reduceBEq, Int.reduceBNe, reduceCtorEq, Nat.reduceAdd]
      clear hz
      rintro ⟨c, a', acc, r, hh⟩ Q ⟨j1, j2, j3, j4, v6, v10, vr⟩ hQ
      simp only at j1 j2 j3 j4 v6 v10 vr hQ ⊢
      have hx : madeL G deep c (l.drop a') acc = (acc, l.drop a') ∨ (∃ c', c = c' + 1 ∧ a' < l.length ∧ deep < 60) := by
        cases c with
        | zero => exact .inl (by unfold madeL; rfl)
        | succ c' =>
          by_cases q : l.drop a' ≠ [] ∧ deep < 60
          · refine .inr ⟨c', rfl, ?_, q.2⟩
            have := List.length_pos_iff.2 q.1
            rw [List.length_drop] at this; omega
          · left; unfold madeL; rw [if_neg q]
      by_cases hgo : ∃ c', c = c' + 1 ∧ a' < l.length ∧ deep < 60
      · obtain ⟨c', rfl, q1n, q2n⟩ := hgo
        clear hx
        have g1 : (((c' + 1 : Nat) : Int) > 0) = True := eq_true (by omega)
        have g2 : ((a' : Int) < (l.length : Int)) = True := eq_true (by omega)
        have g3 : ((deep : Int) < 60) = True := eq_true (by omega)
        have wd : IntKind.i64.wrap ((deep : Int) + 1) = ((deep + 1 : Nat) : Int) := wrap_succ (by omega)
        have wc : IntKind.i64.wrap (((c' + 1 : Nat) : Int) - 1) = (c' : Int) := by rw [wrap_i64 (by omega) (by omega)]; omega
        have hc := hcall a' j2 j3 q2n
        have hS := hsuf (l.drop a')
        have hne : l.drop a' ≠ [] := fun e => by
          have := congrArg List.length e
          rw [List.length_drop, List.length_nil] at this; omega
        unfold madeL at j1
        rw [if_pos ⟨hne, q2n⟩] at j1
        generalize G (l.drop a') = y at *
        obtain ⟨y, rs⟩ := y
        simp only at j1 hS hc
        have hlen := hS.length_le
        rw [List.length_drop] at hlen
        have hdr : l.drop (l.length - rs.length) = rs := (List.suffix_iff_eq_drop.1 (hS.trans (List.drop_suffix a' l))).symm
        have wr : ((l.length : Int) - (rs.length : Int)) = ((l.length - rs.length : Nat) : Int) := by omega
        rw [wr] at hc
        have hy2 : y.enc.length = 5 ∧ y.enc.all cellOk = true := ⟨len_enc y, enc_ok y⟩
        have hxn : (Nd.encs acc).length = acc.length := len_encs acc
        have htk : Nd.encs (acc ++ [y]) = Nd.encs acc ++ [y.enc] := (encs_snoc acc y).symm
        clear hS
        obtain ⟨zk, zt, zx, zm, zl⟩ := y
        rw [enc_mk] at hc hy2 htk
        simp (config := {maxSteps := 1000000}) only [len_encTs, g1, g2, g3, wd, wc, hc, v6, v10, m1, m2, m3, m4, m5, m6, hT_q, i_callNe, Int.natCast_nonneg, Nat.le_refl, Int.le_refl, List.take_succ_cons, List.take_zero, decide_true, decide_false, Bool.and_false, Bool.false_and, zz, zzN, zzF, zzD, zzM, cond_true, cond_false, ↓reduceIte, Nat.reduceEqDiff, Nat.reduceBEq, Int.reduceLT, Int.reduceLE, Int.reduceToNat, Int.reduceEq, Int.reduceAdd, Int.reduceSub, Int.reduceMul, Int.reduceNeg, Nat.reduceMul, Nat.reduceSub, Nat.reduceLeDiff, Nat.reduceLT, Int.reduceGT, Int.reduceGE, Int.reduceBEq, Int.reduceBNe, reduceCtorEq, Nat.reduceAdd]
        intro _ i12 k12
        have p1n : ¬ i12 = i6 := fun e => by subst e; rw [v6] at k12; cases k12
        have p2n : ¬ i12 = i10 := fun e => by subst e; rw [v10] at k12; cases k12
        have p1n' : ¬ i6 = i12 := fun e => p1n e.symm
        have p2n' : ¬ i10 = i12 := fun e => p2n e.symm
        simp (config := {maxSteps := 1000000}) only [v6, v10, p1n, p2n, p1n', p2n', m1, m2, m3, m4, m5, m6, hT_q, i_callNe, Int.natCast_nonneg, Nat.le_refl, Int.le_refl, List.take_succ_cons, List.take_zero, decide_true, decide_false, Bool.and_false, Bool.false_and, zz, zzN, zzF, zzD, zzM, cond_true, cond_false, ↓reduceIte, Nat.reduceEqDiff, Nat.reduceBEq, Int.reduceLT, Int.reduceLE, Int.reduceToNat, Int.reduceEq, Int.reduceAdd, Int.reduceSub, Int.reduceMul, Int.reduceNeg, Nat.reduceMul, Nat.reduceSub, Nat.reduceLeDiff, Nat.reduceLT, Int.reduceGT, Int.reduceGE, Int.reduceBEq, Int.reduceBNe, reduceCtorEq, Nat.reduceAdd]
        refine app_own2 (b := 64) hxn (fun h0 => ?_) hy2 (by omega) (by omega) fun r' a1 a2 => ?_
        · have e : ¬ r = i12 := fun e => by rw [← e, (vr h0).2.2] at k12; cases k12
          rw [AHeap.set_f, if_neg e]
          exact (vr h0).2.2
        have a3 : r' ≠ i6 ∧ r' ≠ i10 ∧ r' ≠ i12 := by
          by_cases h0 : acc.length = 0
          · have := a1 h0
            rw [AHeap.set_f] at this
            split at this
            · cases this
            · rename_i q
              refine ⟨fun e => ?_, fun e => ?_, q⟩
              · subst e; rw [v6] at this; cases this
              · subst e; rw [v10] at this; cases this
          · rw [a2 h0]; exact ⟨(vr h0).1, (vr h0).2.1, fun e => by rw [← e, (vr h0).2.2] at k12; cases k12⟩
        obtain ⟨r1, r2, r3⟩ := a3
        have r1' : ¬ i6 = r' := fun e => r1 e.symm
        have r2' : ¬ i10 = r' := fun e => r2 e.symm
        have r3' : ¬ i12 = r' := fun e => r3 e.symm
        simp (config := {maxSteps := 1000000}) only [v6, v10, wc, r1, r2, r3, r1', r2', r3', p1n, p2n, p1n', p2n', m1, m2, m3, m4, m5, m6, hT_q, i_callNe, Int.natCast_nonneg, Nat.le_refl, Int.le_refl, List.take_succ_cons, List.take_zero, decide_true, decide_false, Bool.and_false, Bool.false_and, zz, zzN, zzF, zzD, zzM, cond_true, cond_false, ↓reduceIte, Nat.reduceEqDiff, Nat.reduceBEq, Int.reduceLT, Int.reduceLE, Int.reduceToNat, Int.reduceEq, Int.reduceAdd, Int.reduceSub, Int.reduceMul, Int.reduceNeg, Nat.reduceMul, Nat.reduceSub, Nat.reduceLeDiff, Nat.reduceLT, Int.reduceGT, Int.reduceGE, Int.reduceBEq, Int.reduceBNe, reduceCtorEq, Nat.reduceAdd]
        have el : (acc ++ [Nd.mk zk zt zx zm zl]).length = acc.length + 1 := by simp
        refine hQ (c', l.length - rs.length, acc ++ [Nd.mk zk zt zx zm zl], r', _) _ _ ⟨by simp only [hdr]; exact j1, by simp only; omega, by simp only; omega, by simp only [el]; omega, ?_, ?_, fun _ => ⟨r1, r2, ?_⟩⟩ (by simp only [i_callNe, Int.natCast_nonneg, Nat.le_refl, Int.le_refl, List.take_succ_cons, List.take_zero, decide_true, decide_false, Bool.and_false, Bool.false_and, zz, zzN, zzF, zzD, zzM, cond_true, cond_false, ↓reduceIte, Nat.reduceEqDiff, Nat.reduceBEq, Int.reduceLT, Int.reduceLE, Int.reduceToNat, Int.reduceEq, Int.reduceAdd, Int.reduceSub, Int.reduceMul, Int.reduceNeg, Nat.reduceMul, Nat.reduceSub, Nat.reduceLeDiff, Nat.reduceLT, Int.reduceGT, Int.reduceGE, Int.reduceBEq, Int.reduceBNe, reduceCtorEq, Nat.reduceAdd]) (AHeap.sub_refl _) (by simp only; omega)
        · simp only [AHeap.set_f, r1', p1n', m1, m2, m3, m4, m5, m6, v6, ↓reduceIte]
        · simp only [AHeap.set_f, el, ownD_pos (Nat.succ_ne_zero acc.length), ↓reduceIte]
        · rw [el, htk]
          simp only [AHeap.set_f, r2, ↓reduceIte]
      · have hx := hx.resolve_right hgo
        rw [hx] at j1
        subst j1
        have we : ((l.length : Int) - ((l.drop a').length : Int)) = (a' : Int) := by rw [List.length_drop]; omega
        clear hx
        by_cases q1n : c = 0
        · subst q1n
          have g1 : (((0 : Nat) : Int) > 0) = False := eq_false (by omega)
          by_cases h0 : acc = []
          · subst h0
            simp only [List.length_nil, ownD_zero] at v10
            simp (config := {maxSteps := 1000000}) only [len_encTs, g1, v6, v10, m1, m2, m3, m4, m5, m6, we, encs_nil, hT_q, i_callNe, Int.natCast_nonneg, Nat.le_refl, Int.le_refl, List.take_succ_cons, List.take_zero, decide_true, decide_false, Bool.and_false, Bool.false_and, zz, zzN, zzF, zzD, zzM, cond_true, cond_false, ↓reduceIte, Nat.reduceEqDiff, Nat.reduceBEq, Int.reduceLT, Int.reduceLE, Int.reduceToNat, Int.reduceEq, Int.reduceAdd, Int.reduceSub, Int.reduceMul, Int.reduceNeg, Nat.reduceMul, Nat.reduceSub, Nat.reduceLeDiff, Nat.reduceLT, Int.reduceGT, Int.reduceGE, Int.reduceBEq, Int.reduceBNe, reduceCtorEq, Nat.reduceAdd]
          · have h1 : acc.length ≠ 0 := fun e => h0 (List.length_eq_zero_iff.1 e)
            obtain ⟨r1, r2, v4⟩ := vr h1
            have r1' : ¬ i6 = r := fun e => r1 e.symm
            have r2' : ¬ i10 = r := fun e => r2 e.symm
            have tk : (Nd.encs acc).take acc.length = Nd.encs acc := List.take_of_length_le (by rw [len_encs]; omega)
            simp (config := {maxSteps := 1000000}) only [len_encTs, g1, v6, v10, v4, tk, m1, m2, m3, m4, m5, m6, r1, r2, r1', r2', we, len_encs, ownD_pos h1, hT_q, i_callNe, Int.natCast_nonneg, Nat.le_refl, Int.le_refl, List.take_succ_cons, List.take_zero, decide_true, decide_false, Bool.and_false, Bool.false_and, zz, zzN, zzF, zzD, zzM, cond_true, cond_false, ↓reduceIte, Nat.reduceEqDiff, Nat.reduceBEq, Int.reduceLT, Int.reduceLE, Int.reduceToNat, Int.reduceEq, Int.reduceAdd, Int.reduceSub, Int.reduceMul, Int.reduceNeg, Nat.reduceMul, Nat.reduceSub, Nat.reduceLeDiff, Nat.reduceLT, Int.reduceGT, Int.reduceGE, Int.reduceBEq, Int.reduceBNe, reduceCtorEq, Nat.reduceAdd]
          
        · obtain ⟨c', rfl⟩ : ∃ c', c = c' + 1 := ⟨c - 1, by omega⟩
          have g1 : (((c' + 1 : Nat) : Int) > 0) = True := eq_true (by omega)
          by_cases q2n : a' < l.length
          · have g2 : ((a' : Int) < (l.length : Int)) = True := eq_true (by omega)
            have q3n : ¬ deep < 60 := fun q => hgo ⟨c', rfl, q2n, q⟩
            have g3 : ((deep : Int) < 60) = False := eq_false (by omega)
            by_cases h0 : acc = []
            · subst h0
              simp only [List.length_nil, ownD_zero] at v10
              simp (config := {maxSteps := 1000000}) only [len_encTs, g1, g2, g3, v6, v10, m1, m2, m3, m4, m5, m6, we, encs_nil, hT_q, i_callNe, Int.natCast_nonneg, Nat.le_refl, Int.le_refl, List.take_succ_cons, List.take_zero, decide_true, decide_false, Bool.and_false, Bool.false_and, zz, zzN, zzF, zzD, zzM, cond_true, cond_false, ↓reduceIte, Nat.reduceEqDiff, Nat.reduceBEq, Int.reduceLT, Int.reduceLE, Int.reduceToNat, Int.reduceEq, Int.reduceAdd, Int.reduceSub, Int.reduceMul, Int.reduceNeg, Nat.reduceMul, Nat.reduceSub, Nat.reduceLeDiff, Nat.reduceLT, Int.reduceGT, Int.reduceGE, Int.reduceBEq, Int.reduceBNe, reduceCtorEq, Nat.reduceAdd]
            · have h1 : acc.length ≠ 0 := fun e => h0 (List.length_eq_zero_iff.1 e)
              obtain ⟨r1, r2, v4⟩ := vr h1
              have r1' : ¬ i6 = r := fun e => r1 e.symm
              have r2' : ¬ i10 = r := fun e => r2 e.symm
              have tk : (Nd.encs acc).take acc.length = Nd.encs acc := List.take_of_length_le (by rw [len_encs]; omega)
              simp (config := {maxSteps := 1000000}) only [len_encTs, g1, g2, g3, v6, v10, v4, tk, m1, m2, m3, m4, m5, m6, r1, r2, r1', r2', we, len_encs, ownD_pos h1, hT_q, i_callNe, Int.natCast_nonneg, Nat.le_refl, Int.le_refl, List.take_succ_cons, List.take_zero, decide_true, decide_false, Bool.and_false, Bool.false_and, zz, zzN, zzF, zzD, zzM, cond_true, cond_false, ↓reduceIte, Nat.reduceEqDiff, Nat.reduceBEq, Int.reduceLT, Int.reduceLE, Int.reduceToNat, Int.reduceEq, Int.reduceAdd, Int.reduceSub, Int.reduceMul, Int.reduceNeg, Nat.reduceMul, Nat.reduceSub, Nat.reduceLeDiff, Nat.reduceLT, Int.reduceGT, Int.reduceGE, Int.reduceBEq, Int.reduceBNe, reduceCtorEq, Nat.reduceAdd]
            
          · have g2 : ((a' : Int) < (l.length : Int)) = False := eq_false (by omega)
            by_cases h0 : acc = []
            · subst h0
              simp only [List.length_nil, ownD_zero] at v10
              simp (config := {maxSteps := 1000000}) only [len_encTs, g1, g2, v6, v10, m1, m2, m3, m4, m5, m6, we, encs_nil, hT_q, i_callNe, Int.natCast_nonneg, Nat.le_refl, Int.le_refl, List.take_succ_cons, List.take_zero, decide_true, decide_false, Bool.and_false, Bool.false_and, zz, zzN, zzF, zzD, zzM, cond_true, cond_false, ↓reduceIte, Nat.reduceEqDiff, Nat.reduceBEq, Int.reduceLT, Int.reduceLE, Int.reduceToNat, Int.reduceEq, Int.reduceAdd, Int.reduceSub, Int.reduceMul, Int.reduceNeg, Nat.reduceMul, Nat.reduceSub, Nat.reduceLeDiff, Nat.reduceLT, Int.reduceGT, Int.reduceGE, Int.reduceBEq, Int.reduceBNe, reduceCtorEq, Nat.reduceAdd]
            · have h1 : acc.length ≠ 0 := fun e => h0 (List.length_eq_zero_iff.1 e)
              obtain ⟨r1, r2, v4⟩ := vr h1
              have r1' : ¬ i6 = r := fun e => r1 e.symm
              have r2' : ¬ i10 = r := fun e => r2 e.symm
              have tk : (Nd.encs acc).take acc.length = Nd.encs acc := List.take_of_length_le (by rw [len_encs]; omega)
              simp (config := {maxSteps := 1000000}) only [len_encTs, g1, g2, v6, v10, v4, tk, m1, m2, m3, m4, m5, m6, r1, r2, r1', r2', we, len_encs, ownD_pos h1, hT_q, i_callNe, Int.natCast_nonneg, Nat.le_refl, Int.le_refl, List.take_succ_cons, List.take_zero, decide_true, decide_false, Bool.and_false, Bool.false_and, zz, zzN, zzF, zzD, zzM, cond_true, cond_false, ↓reduceIte, Nat.reduceEqDiff, Nat.reduceBEq, Int.reduceLT, Int.reduceLE, Int.reduceToNat, Int.reduceEq, Int.reduceAdd, Int.reduceSub, Int.reduceMul, Int.reduceNeg, Nat.reduceMul, Nat.reduceSub, Nat.reduceLeDiff, Nat.reduceLT, Int.reduceGT, Int.reduceGE, Int.reduceBEq, Int.reduceBNe, reduceCtorEq, Nat.reduceAdd]
            
    · have gs : ((ys.length : Int) > 64) = False := eq_false (by omega)
      rw [List.take_of_length_le (show ys.length ≤ 64 by omega)]
      simp (config := {maxSteps := 1000000}) only [s43n, enc_mk, len_encTs, g, gs, hac, wa, and_31, and_3, and_7, hT_q, i_callNe, Int.natCast_nonneg, Nat.le_refl, Int.le_refl, List.take_succ_cons, List.take_zero, decide_true, decide_false, Bool.and_false, Bool.false_and, zz, zzN, zzF, zzD, zzM, cond_true, cond_false, ↓reduceIte, Nat.reduceEqDiff, Nat.reduceBEq, Int.reduceLT, Int.reduceLE, Int.reduceToNat, Int.reduceEq, Int.reduceAdd, Int.reduceSub, Int.reduceMul, Int.reduceNeg, Nat.reduceMul, Nat.reduceSub, Nat.reduceLeDiff, Nat.reduceLT, Int.reduceGT, Int.reduceGE, Int.reduceBEq, Int.reduceBNe, reduceCtorEq, Nat.reduceAdd]
      intro i6 hl i8 m1 m2 hs
      intro i10 m3 m4 m5 m6

      simp (config := {maxSteps := 1000000}) only [m1, m2, m3, m4, m5, m6, and_7, hT_q, i_callNe, Int.natCast_nonneg, Nat.le_refl, Int.le_refl, List.take_succ_cons, List.take_zero, decide_true, decide_false, Bool.and_false, Bool.false_and, zz, zzN, zzF, zzD, zzM, cond_true, cond_false, ↓reduceIte, Nat.reduceEqDiff, Nat.reduceBEq, Int.reduceLT, Int.reduceLE, Int.reduceToNat, Int.reduceEq, Int.reduceAdd, Int.reduceSub, Int.reduceMul, Int.reduceNeg, Nat.reduceMul, Nat.reduceSub, Nat.reduceLeDiff, Nat.reduceLT, Int.reduceGT, Int.reduceGE, Int.reduceBEq, Int.reduceBNe, reduceCtorEq, Nat.reduceAdd]
      have b7 := lowB_lt yc 3
      generalize lowB yc 3 = c0n at *
      generalize hG : (fun l => madeF f l (deep + 1)) = G at *
      have hsuf : ∀ l, (G l).2 <:+ l := fun l => by rw [← hG]; exact madeF_suf f l (deep + 1)
      have hcall : ∀ a', a + 1 ≤ a' → a' ≤ l.length → deep < 60 → qMade f [.sl (encTs l), .int .i64 (a' : Int), .int .i64 ((deep + 1 : Nat) : Int)] = some (.tuple [.agg (G (l.drop a')).1.enc, .int .i64 (l.length - (G (l.drop a')).2.length)]) := fun a' q1n q2n q3n => by
        simp only [qMade, decTs_enc]
        rw [if_pos (by omega), ← hG]
        simp only [Int.toNat_natCast]
      generalize hz : madeL G deep c0n (l.drop (a + 1)) [] = z at *
      refine run_loop (X := Nat × Nat × List Nd × Nat × AHeap) (fun z => [(0, .sl (encTs l)), (1, .int .i64 z.2.1), (2, .int .i64 deep), (6, .ptr i6 1 0), (10, .ptr i10 1 0), (11, .int .i64 z.1)]) (fun z => z.2.2.2.2) (fun z => z.1)
        (fun x => madeL G deep x.1 (l.drop x.2.1) x.2.2.1 = z ∧ a + 1 ≤ x.2.1 ∧ x.2.1 ≤ l.length ∧ x.2.2.1.length + x.1 ≤ 8 ∧ x.2.2.2.2.f i6 = some (.cells [.int .i64 0, .int .i64 0, .str [], .int .i64 0, .nilsl]) ∧
          x.2.2.2.2.f i10 = some (.cells [.int .i64 (lowB yk 5), .int .i64 (lowB yt 2), .str ys, .int .i64 yn, ownD x.2.2.2.1 x.2.2.1.length]) ∧
          (x.2.2.1.length ≠ 0 → x.2.2.2.1 ≠ i6 ∧ x.2.2.2.1 ≠ i10 ∧ x.2.2.2.2.f x.2.2.2.1 = some (.row 5 (x.2.2.1.length + 2) (Nd.encs x.2.2.1) false))) (c0n, a + 1, [], 0, _) ⟨hz, Nat.le_refl _, c, by simp only [List.length_nil]; omega, ?_, ?_, fun h => absurd rfl h⟩ ?_ (AHeap.sub_refl _) ?_
      · simp only [AHeap.set_f, m1, m2, m3, m4, m5, m6, ↓reduceIte]
      · simp only [AHeap.set_f, m1, m2, m3, m4, m5, m6, List.length_nil, ownD_zero, ↓reduceIte]
      · simp only [i_callNe, Int.natCast_nonneg, Nat.le_refl, Int.le_refl, List.take_succ_cons, List.take_zero, decide_true, decide_false, Bool.and_false, Bool.false_and, zz, zzN, zzF, zzD, zzM, cond_true, cond_false, ↓reduceIte, Nat.reduceEqDiff, Nat.reduceBEq, Int.reduceLT, Int.reduceLE, Int.reduceToNat, Int.reduceEq, Int.reduceAdd, Int.reduceSub, Int.reduceMul, Int.reduceNeg, Nat.reduceMul, Nat.reduceSub, Nat.reduceLeDiff, Nat.reduceLT, Int.reduceGT, Int.reduceGE, Int.reduceBEq, Int.reduceBNe, reduceCtorEq, Nat.reduceAdd]
      clear hz
      rintro ⟨c, a', acc, r, hh⟩ Q ⟨j1, j2, j3, j4, v6, v10, vr⟩ hQ
      simp only at j1 j2 j3 j4 v6 v10 vr hQ ⊢
      have hx : madeL G deep c (l.drop a') acc = (acc, l.drop a') ∨ (∃ c', c = c' + 1 ∧ a' < l.length ∧ deep < 60) := by
        cases c with
        | zero => exact .inl (by unfold madeL; rfl)
        | succ c' =>
          by_cases q : l.drop a' ≠ [] ∧ deep < 60
          · refine .inr ⟨c', rfl, ?_, q.2⟩
            have := List.length_pos_iff.2 q.1
            rw [List.length_drop] at this; omega
          · left; unfold madeL; rw [if_neg q]
      by_cases hgo : ∃ c', c = c' + 1 ∧ a' < l.length ∧ deep < 60
      · obtain ⟨c', rfl, q1n, q2n⟩ := hgo
        clear hx
        have g1 : (((c' + 1 : Nat) : Int) > 0) = True := eq_true (by omega)
        have g2 : ((a' : Int) < (l.length : Int)) = True := eq_true (by omega)
        have g3 : ((deep : Int) < 60) = True := eq_true (by omega)
        have wd : IntKind.i64.wrap ((deep : Int) + 1) = ((deep + 1 : Nat) : Int) := wrap_succ (by omega)
        have wc : IntKind.i64.wrap (((c' + 1 : Nat) : Int) - 1) = (c' : Int) := by rw [wrap_i64 (by omega) (by omega)]; omega
        have hc := hcall a' j2 j3 q2n
        have hS := hsuf (l.drop a')
        have hne : l.drop a' ≠ [] := fun e => by
          have := congrArg List.length e
          rw [List.length_drop, List.length_nil] at this; omega
        unfold madeL at j1
        rw [if_pos ⟨hne, q2n⟩] at j1
        generalize G (l.drop a') = y at *
        obtain ⟨y, rs⟩ := y
        simp only at j1 hS hc
        have hlen := hS.length_le
        rw [List.length_drop] at hlen
        have hdr : l.drop (l.length - rs.length) = rs := (List.suffix_iff_eq_drop.1 (hS.trans (List.drop_suffix a' l))).symm
        have wr : ((l.length : Int) - (rs.length : Int)) = ((l.length - rs.length : Nat) : Int) := by omega
        rw [wr] at hc
        have hy2 : y.enc.length = 5 ∧ y.enc.all cellOk = true := ⟨len_enc y, enc_ok y⟩
        have hxn : (Nd.encs acc).length = acc.length := len_encs acc
        have htk : Nd.encs (acc ++ [y]) = Nd.encs acc ++ [y.enc] := (encs_snoc acc y).symm
        clear hS
        obtain ⟨zk, zt, zx, zm, zl⟩ := y
        rw [enc_mk] at hc hy2 htk
        simp (config := {maxSteps := 1000000}) only [len_encTs, g1, g2, g3, wd, wc, hc, v6, v10, m1, m2, m3, m4, m5, m6, hT_q, i_callNe, Int.natCast_nonneg, Nat.le_refl, Int.le_refl, List.take_succ_cons, List.take_zero, decide_true, decide_false, Bool.and_false, Bool.false_and, zz, zzN, zzF, zzD, zzM, cond_true, cond_false, ↓reduceIte, Nat.reduceEqDiff, Nat.reduceBEq, Int.reduceLT, Int.reduceLE, Int.reduceToNat, Int.reduceEq, Int.reduceAdd, Int.reduceSub, Int.reduceMul, Int.reduceNeg, Nat.reduceMul, Nat.reduceSub, Nat.reduceLeDiff, Nat.reduceLT, Int.reduceGT, Int.reduceGE, Int.reduceBEq, Int.reduceBNe, reduceCtorEq, Nat.reduceAdd]
        intro _ i12 k12
        have p1n : ¬ i12 = i6 := fun e => by subst e; rw [v6] at k12; cases k12
        have p2n : ¬ i12 = i10 := fun e => by subst e; rw [v10] at k12; cases k12
        have p1n' : ¬ i6 = i12 := fun e => p1n e.symm
        have p2n' : ¬ i10 = i12 := fun e => p2n e.symm
        simp (config := {maxSteps := 1000000}) only [v6, v10, p1n, p2n, p1n', p2n', m1, m2, m3, m4, m5, m6, hT_q, i_callNe, Int.natCast_nonneg, Nat.le_refl, Int.le_refl, List.take_succ_cons, List.take_zero, decide_true, decide_false, Bool.and_false, Bool.false_and, zz, zzN, zzF, zzD, zzM, cond_true, cond_false, ↓reduceIte, Nat.reduceEqDiff, Nat.reduceBEq, Int.reduceLT, Int.reduceLE, Int.reduceToNat, Int.reduceEq, Int.reduceAdd, Int.reduceSub, Int.reduceMul, Int.reduceNeg, Nat.reduceMul, Nat.reduceSub, Nat.reduceLeDiff, Nat.reduceLT, Int.reduceGT, Int.reduceGE, Int.reduceBEq, Int.reduceBNe, reduceCtorEq, Nat.reduceAdd]
        refine app_own2 (b := 64) hxn (fun h0 => ?_) hy2 (by omega) (by omega) fun r' a1 a2 => ?_
        · have e : ¬ r = i12 := fun e => by rw [← e, (vr h0).2.2] at k12; cases k12
          rw [AHeap.set_f, if_neg e]
          exact (vr h0).2.2
        have a3 : r' ≠ i6 ∧ r' ≠ i10 ∧ r' ≠ i12 := by
          by_cases h0 : acc.length = 0
          · have := a1 h0
            rw [AHeap.set_f] at this
            split at this
            · cases this
            · rename_i q
              refine ⟨fun e => ?_, fun e => ?_, q⟩
              · subst e; rw [v6] at this; cases this
              · subst e; rw [v10] at this; cases this
          · rw [a2 h0]; exact ⟨(vr h0).1, (vr h0).2.1, fun e => by rw [← e, (vr h0).2.2] at k12; cases k12⟩
        obtain ⟨r1, r2, r3⟩ := a3
        have r1' : ¬ i6 = r' := fun e => r1 e.symm
        have r2' : ¬ i10 = r' := fun e => r2 e.symm
        have r3' : ¬ i12 = r' := fun e => r3 e.symm
        simp (config := {maxSteps := 1000000}) only [v6, v10, wc, r1, r2, r3, r1', r2', r3', p1n, p2n, p1n', p2n', m1, m2, m3, m4, m5, m6, hT_q, i_callNe, Int.natCast_nonneg, Nat.le_refl, Int.le_refl, List.take_succ_cons, List.take_zero, decide_true, decide_false, Bool.and_false, Bool.false_and, zz, zzN, zzF, zzD, zzM, cond_true, cond_false, ↓reduceIte, Nat.reduceEqDiff, Nat.reduceBEq, Int.reduceLT, Int.reduceLE, Int.reduceToNat, Int.reduceEq, Int.reduceAdd, Int.reduceSub, Int.reduceMul, Int.reduceNeg, Nat.reduceMul, Nat.reduceSub, Nat.reduceLeDiff, Nat.reduceLT, Int.reduceGT, Int.reduceGE, Int.reduceBEq, Int.reduceBNe, reduceCtorEq, Nat.reduceAdd]
        have el : (acc ++ [Nd.mk zk zt zx zm zl]).length = acc.length + 1 := by simp
        refine hQ (c', l.length - rs.length, acc ++ [Nd.mk zk zt zx zm zl], r', _) _ _ ⟨by simp only [hdr]; exact j1, by simp only; omega, by simp only; omega, by simp only [el]; omega, ?_, ?_, fun _ => ⟨r1, r2, ?_⟩⟩ (by simp only [i_callNe, Int.natCast_nonneg, Nat.le_refl, Int.le_refl, List.take_succ_cons, List.take_zero, decide_true, decide_false, Bool.and_false, Bool.false_and, zz, zzN, zzF, zzD, zzM, cond_true, cond_false, ↓reduceIte, Nat.reduceEqDiff, Nat.reduceBEq, Int.reduceLT, Int.reduceLE, Int.reduceToNat, Int.reduceEq, Int.reduceAdd, Int.reduceSub, Int.reduceMul, Int.reduceNeg, Nat.reduceMul, Nat.reduceSub, Nat.reduceLeDiff, Nat.reduceLT, Int.reduceGT, Int.reduceGE, Int.reduceBEq, Int.reduceBNe, reduceCtorEq, Nat.reduceAdd]) (AHeap.sub_refl _) (by simp only; omega)
        · simp only [AHeap.set_f, r1', p1n', m1, m2, m3, m4, m5, m6, v6, ↓reduceIte]
        · simp only [AHeap.set_f, el, ownD_pos (Nat.succ_ne_zero acc.length), ↓reduceIte]
        · rw [el, htk]
          simp only [AHeap.set_f, r2, ↓reduceIte]
      · have hx := hx.resolve_right hgo
        rw [hx] at j1
        subst j1
        have we : ((l.length : Int) - ((l.drop a').length : Int)) = (a' : Int) := by rw [List.length_drop]; omega
        clear hx
        by_cases q1n : c = 0
        · subst q1n
          have g1 : (((0 : Nat) : Int) > 0) = False := eq_false (by omega)
          by_cases h0 : acc = []
          · subst h0
            simp only [List.length_nil, ownD_zero] at v10
            simp (config := {maxSteps := 1000000}) only [len_encTs, g1, v6, v10, m1, m2, m3, m4, m5, m6, we, encs_nil, hT_q, i_callNe, Int.natCast_nonneg, Nat.le_refl, Int.le_refl, List.take_succ_cons, List.take_zero, decide_true, decide_false, Bool.and_false, Bool.false_and, zz, zzN, zzF, zzD, zzM, cond_true, cond_false, ↓reduceIte, Nat.reduceEqDiff, Nat.reduceBEq, Int.reduceLT, Int.reduceLE, Int.reduceToNat, Int.reduceEq, Int.reduceAdd, Int.reduceSub, Int.reduceMul, Int.reduceNeg, Nat.reduceMul, Nat.reduceSub, Nat.reduceLeDiff, Nat.reduceLT, Int.reduceGT, Int.reduceGE, Int.reduceBEq, Int.reduceBNe, reduceCtorEq, Nat.reduceAdd]
          · have h1 : acc.length ≠ 0 := fun e => h0 (List.length_eq_zero_iff.1 e)
            obtain ⟨r1, r2, v4⟩ := vr h1
            have r1' : ¬ i6 = r := fun e => r1 e.symm
            have r2' : ¬ i10 = r := fun e => r2 e.symm
            have tk : (Nd.encs acc).take acc.length = Nd.encs acc := List.take_of_length_le (by rw [len_encs]; omega)
            simp (config := {maxSteps := 1000000}) only [len_encTs, g1, v6, v10, v4, tk, m1, m2, m3, m4, m5, m6, r1, r2, r1', r2', we, len_encs, ownD_pos h1, hT_q, i_callNe, Int.natCast_nonneg, Nat.le_refl, Int.le_refl, List.take_succ_cons, List.take_zero, decide_true, decide_false, Bool.and_false, Bool.false_and, zz, zzN, zzF, zzD, zzM, cond_true, cond_false, ↓reduceIte, Nat.reduceEqDiff, Nat.reduceBEq, Int.reduceLT, Int.reduceLE, Int.reduceToNat, Int.reduceEq, Int.reduceAdd, Int.reduceSub, Int.reduceMul, Int.reduceNeg, Nat.reduceMul, Nat.reduceSub, Nat.reduceLeDiff, Nat.reduceLT, Int.reduceGT, Int.reduceGE, Int.reduceBEq, Int.reduceBNe, reduceCtorEq, Nat.reduceAdd]
          
        · obtain ⟨c', rfl⟩ : ∃ c', c = c' + 1 := ⟨c - 1, by omega⟩
          have g1 : (((c' + 1 : Nat) : Int) > 0) = True := eq_true (by omega)
          by_cases q2n : a' < l.length
          · have g2 : ((a' : Int) < (l.length : Int)) = True := eq_true (by omega)
            have q3n : ¬ deep < 60 := fun q => hgo ⟨c', rfl, q2n, q⟩
            have g3 : ((deep : Int) < 60) = False := eq_false (by omega)
            by_cases h0 : acc = []
            · subst h0
              simp only [List.length_nil, ownD_zero] at v10
              simp (config := {maxSteps := 1000000}) only [len_encTs, g1, g2, g3, v6, v10, m1, m2, m3, m4, m5, m6, we, encs_nil, hT_q, i_callNe, Int.natCast_nonneg, Nat.le_refl, Int.le_refl, List.take_succ_cons, List.take_zero, decide_true, decide_false, Bool.and_false, Bool.false_and, zz, zzN, zzF, zzD, zzM, cond_true, cond_false, ↓reduceIte, Nat.reduceEqDiff, Nat.reduceBEq, Int.reduceLT, Int.reduceLE, Int.reduceToNat, Int.reduceEq, Int.reduceAdd, Int.reduceSub, Int.reduceMul, Int.reduceNeg, Nat.reduceMul, Nat.reduceSub, Nat.reduceLeDiff, Nat.reduceLT, Int.reduceGT, Int.reduceGE, Int.reduceBEq, Int.reduceBNe, reduceCtorEq, Nat.reduceAdd]
            · have h1 : acc.length ≠ 0 := fun e => h0 (List.length_eq_zero_iff.1 e)
              obtain ⟨r1, r2, v4⟩ := vr h1
              have r1' : ¬ i6 = r := fun e => r1 e.symm
              have r2' : ¬ i10 = r := fun e => r2 e.symm
              have tk : (Nd.encs acc).take acc.length = Nd.encs acc := List.take_of_length_le (by rw [len_encs]; omega)
              simp (config := {maxSteps := 1000000}) only [len_encTs, g1, g2, g3, v6, v10, v4, tk, m1, m2, m3, m4, m5, m6, r1, r2, r1', r2', we, len_encs, ownD_pos h1, hT_q, i_callNe, Int.natCast_nonneg, Nat.le_refl, Int.le_refl, List.take_succ_cons, List.take_zero, decide_true, decide_false, Bool.and_false, Bool.false_and, zz, zzN, zzF, zzD, zzM, cond_true, cond_false, ↓reduceIte, Nat.reduceEqDiff, Nat.reduceBEq, Int.reduceLT, Int.reduceLE, Int.reduceToNat, Int.reduceEq, Int.reduceAdd, Int.reduceSub, Int.reduceMul, Int.reduceNeg, Nat.reduceMul, Nat.reduceSub, Nat.reduceLeDiff, Nat.reduceLT, Int.reduceGT, Int.reduceGE, Int.reduceBEq, Int.reduceBNe, reduceCtorEq, Nat.reduceAdd]
            
          · have g2 : ((a' : Int) < (l.length : Int)) = False := eq_false (by omega)
            by_cases h0 : acc = []
            · subst h0
              simp only [List.length_nil, ownD_zero] at v10
              simp (config := {maxSteps := 1000000}) only [len_encTs, g1, g2, v6, v10, m1, m2, m3, m4, m5, m6, we, encs_nil, hT_q, i_callNe, Int.natCast_nonneg, Nat.le_refl, Int.le_refl, List.take_succ_cons, List.take_zero, decide_true, decide_false, Bool.and_false, Bool.false_and, zz, zzN, zzF, zzD, zzM, cond_true, cond_false, ↓reduceIte, Nat.reduceEqDiff, Nat.reduceBEq, Int.reduceLT, Int.reduceLE, Int.reduceToNat, Int.reduceEq, Int.reduceAdd, Int.reduceSub, Int.reduceMul, Int.reduceNeg, Nat.reduceMul, Nat.reduceSub, Nat.reduceLeDiff, Nat.reduceLT, Int.reduceGT, Int.reduceGE, Int.reduceBEq, Int.reduceBNe, reduceCtorEq, Nat.reduceAdd]
            · have h1 : acc.length ≠ 0 := fun e => h0 (List.length_eq_zero_iff.1 e)
              obtain ⟨r1, r2, v4⟩ := vr h1
              have r1' : ¬ i6 = r := fun e => r1 e.symm
              have r2' : ¬ i10 = r := fun e => r2 e.symm
              have tk : (Nd.encs acc).take acc.length = Nd.encs acc := List.take_of_length_le (by rw [len_encs]; omega)
              simp (config := {maxSteps := 1000000}) only [len_encTs, g1, g2, v6, v10, v4, tk, m1, m2, m3, m4, m5, m6, r1, r2, r1', r2', we, len_encs, ownD_pos h1, hT_q, i_callNe, Int.natCast_nonneg, Nat.le_refl, Int.le_refl, List.take_succ_cons, List.take_zero, decide_true, decide_false, Bool.and_false, Bool.false_and, zz, zzN, zzF, zzD, zzM, cond_true, cond_false, ↓reduceIte, Nat.reduceEqDiff, Nat.reduceBEq, Int.reduceLT, Int.reduceLE, Int.reduceToNat, Int.reduceEq, Int.reduceAdd, Int.reduceSub, Int.reduceMul, Int.reduceNeg, Nat.reduceMul, Nat.reduceSub, Nat.reduceLeDiff, Nat.reduceLT, Int.reduceGT, Int.reduceGE, Int.reduceBEq, Int.reduceBNe, reduceCtorEq, Nat.reduceAdd]
            
theorem qMade_ok {f : Nat} (hP : ∀ (l : List Tr) (a deep : Nat), a ≤ l.length → l.length - a < f → l.length < 1000000 → deep ≤ 100 → PCall Tryd.prog 43 [.sl (encTs l), .int .i64 a, .int .i64 deep] (.tuple [.agg (madeF f (l.drop a) deep).1.enc, .int .i64 (l.length - (madeF f (l.drop a) deep).2.length)])) (args : List D) (d : D) (h : qMade f args = some d) : PCall Tryd.prog 43 args d := by
  unfold qMade at h
  split at h
  · split at h
    · rename_i ds a deep _ l e
      split at h
      · rename_i c
        cases h
        rw [decTs_some e]
        have := hP l a.toNat deep.toNat (by omega) (by omega) (by omega) (by omega)
        rwa [Int.toNat_of_nonneg c.1, Int.toNat_of_nonneg c.2.2.2.2.1] at this
      · cases h
    · cases h
  · cases h
theorem tbMd_ok : ∀ f, (Tab.zero.addQ 43 (qMade f)).ok Tryd.prog
  | 0 => Tab.addQ_ok (Tab.zero_ok _) (qMade_ok fun l a deep h1 h2 h3 h4 => by omega)
  | f + 1 => Tab.addQ_ok (Tab.zero_ok _) (qMade_ok fun l a deep h1 h2 h3 h4 => made_step f (tbMd_ok f) l a deep h1 h2 h3 h4)
def madeTop (l : List Tr) : Nd := (madeF 301 (l.take 300) 0).1
theorem madeTop_c (l : List Tr) : PCall Tryd.prog 15 [.sl (encTs l)] (.agg (madeTop l).enc) := by
  refine PCall.run (tbMd_ok 301) st15n (by simp) fun E => ?_
  have hT_q : ∀ g args, (Tab.zero.addQ 43 (qMade 301)).q g args = if g = 43 then qMade 301 args else Tab.zero.q g args := fun g args => rfl
  generalize Tab.zero.addQ 43 (qMade 301) = TT at hT_q ⊢
  have hq : qMade 301 [.sl (encTs (l.take 300)), .int .i64 0, .int .i64 0] = some (.tuple [.agg (madeTop l).enc, .int .i64 ((l.take 300).length - (madeF 301 (l.take 300) 0).2.length)]) := by
    have : (l.take 300).length ≤ 300 := by rw [List.length_take]; omega
    simp only [qMade, decTs_enc]
    rw [if_pos (by omega)]
    rfl
  generalize ((l.take 300).length : Int) - (madeF 301 (l.take 300) 0).2.length = a at *
  generalize madeTop l = n at *
  obtain ⟨k, t, x, m, kl⟩ := n
  rw [enc_mk] at hq ⊢
  by_cases c : 300 < l.length
  · have g : ((l.length : Int) > 300) = True := eq_true (by omega)
    have hs : sliceEv (SK.sl 5) (D.sl (encTs l)) none (some (D.int IntKind.i64 300)) none = some (.sl (encTs (l.take 300))) := by
      have h1 : (300 : Int) ≤ ((encTs l).length : Int) := by rw [len_encTs]; omega
      have h2 : ∀ y ∈ encTs l, y.length = 5 := fun y hy => by
        obtain ⟨x, _, rfl⟩ := List.mem_map.1 hy
        rfl
      have h3 : bounds (encTs l).length none (some (D.int IntKind.i64 300)) = some (0, 300) := by
        have h4 : (0 : Int) ≤ 0 ∧ (0 : Int) ≤ 300 ∧ (300 : Int) ≤ ((encTs l).length : Int) := ⟨by omega, by omega, h1⟩
        show (if (0 : Int) ≤ 0 ∧ (0 : Int) ≤ 300 ∧ (300 : Int) ≤ ((encTs l).length : Int) then some ((0 : Int).toNat, (300 : Int).toNat) else none) = _
        rw [if_pos h4]
        rfl
      simp only [sliceEv, h3]
      rw [if_pos h2]
      simp [encTs_take]
    simp (config := {maxSteps := 1000000}) only [s15n, len_encTs, encTs_take, g, hs, hq, hT_q, i_callNe, Int.natCast_nonneg, Nat.le_refl, Int.le_refl, List.take_succ_cons, List.take_zero, decide_true, decide_false, Bool.and_false, Bool.false_and, zz, zzN, zzF, zzD, zzM, cond_true, cond_false, ↓reduceIte, Nat.reduceEqDiff, Nat.reduceBEq, Int.reduceLT, Int.reduceLE, Int.reduceToNat, Int.reduceEq, Int.reduceAdd, Int.reduceSub, Int.reduceMul, Int.reduceNeg, Nat.reduceMul, Nat.reduceSub, Nat.reduceLeDiff, Nat.reduceLT, Int.reduceGT, Int.reduceGE, Int.reduceBEq, Int.reduceBNe, reduceCtorEq, Nat.reduceAdd]
    intro i1 hl i2 n1 n2
    simp (config := {maxSteps := 1000000}) only [n1, n2, hT_q, i_callNe, Int.natCast_nonneg, Nat.le_refl, Int.le_refl, List.take_succ_cons, List.take_zero, decide_true, decide_false, Bool.and_false, Bool.false_and, zz, zzN, zzF, zzD, zzM, cond_true, cond_false, ↓reduceIte, Nat.reduceEqDiff, Nat.reduceBEq, Int.reduceLT, Int.reduceLE, Int.reduceToNat, Int.reduceEq, Int.reduceAdd, Int.reduceSub, Int.reduceMul, Int.reduceNeg, Nat.reduceMul, Nat.reduceSub, Nat.reduceLeDiff, Nat.reduceLT, Int.reduceGT, Int.reduceGE, Int.reduceBEq, Int.reduceBNe, reduceCtorEq, Nat.reduceAdd]
  · have g : ((l.length : Int) > 300) = False := eq_false (by omega)
    rw [List.take_of_length_le (by omega)] at hq
    simp (config := {maxSteps := 1000000}) only [s15n, len_encTs, encTs_take, g, hq, hT_q, i_callNe, Int.natCast_nonneg, Nat.le_refl, Int.le_refl, List.take_succ_cons, List.take_zero, decide_true, decide_false, Bool.and_false, Bool.false_and, zz, zzN, zzF, zzD, zzM, cond_true, cond_false, ↓reduceIte, Nat.reduceEqDiff, Nat.reduceBEq, Int.reduceLT, Int.reduceLE, Int.reduceToNat, Int.reduceEq, Int.reduceAdd, Int.reduceSub, Int.reduceMul, Int.reduceNeg, Nat.reduceMul, Nat.reduceSub, Nat.reduceLeDiff, Nat.reduceLT, Int.reduceGT, Int.reduceGE, Int.reduceBEq, Int.reduceBNe, reduceCtorEq, Nat.reduceAdd]
    intro i1 hl i2 n1 n2
    simp (config := {maxSteps := 1000000}) only [n1, n2, hT_q, i_callNe, Int.natCast_nonneg, Nat.le_refl, Int.le_refl, List.take_succ_cons, List.take_zero, decide_true, decide_false, Bool.and_false, Bool.false_and, zz, zzN, zzF, zzD, zzM, cond_true, cond_false, ↓reduceIte, Nat.reduceEqDiff, Nat.reduceBEq, Int.reduceLT, Int.reduceLE, Int.reduceToNat, Int.reduceEq, Int.reduceAdd, Int.reduceSub, Int.reduceMul, Int.reduceNeg, Nat.reduceMul, Nat.reduceSub, Nat.reduceLeDiff, Nat.reduceLT, Int.reduceGT, Int.reduceGE, Int.reduceBEq, Int.reduceBNe, reduceCtorEq, Nat.reduceAdd]
end
end Go.Proofs.YthpgepillaeldaaDoor.Zz
