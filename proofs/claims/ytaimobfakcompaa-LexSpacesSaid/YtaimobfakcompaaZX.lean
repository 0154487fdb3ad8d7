/- Running code by laws, more: where a choice is already made, the other way is not looked at. -/
import Derived.Test.YtaimobfakcompaaZV
set_option linter.unusedVariables false
set_option linter.unusedSimpArgs false
namespace Go.Proofs.Ytaimobfakcompaa.Zz
variable {T : Tab} {K : Ex → Fr → AHeap → Prop} {E : List DDef → D → AHeap → Prop} {σ : Fr} {h : AHeap}

theorem ite_imp {b : Bool} {A B : Prop} : ((b = true → A) ∧ (b = false → B)) = if b = true then A else B := by
  cases b <;> simp
theorem ite_imp' {b : Bool} {A B : Prop} : ((b = false → A) ∧ (b = true → B)) = if b = true then B else A := by
  cases b <;> simp
theorem choose_b {c : Opd} {a b : Stm} {k : List Item} {t : Bool} : pickC T K E c a b k σ h (.bool t) = if t = true then vc T a (todo T K E k) E (σ.mark c true) h else vc T b (todo T K E k) E (σ.mark c false) h := by
  rw [pickC_bool, ite_imp]
theorem guard_bt {i : Ins Opd} {d : Option Nat} {os : List OpI} {K : Fr → AHeap → Prop} {t : Nat} {p b : Bool} : guard T i d t true p os K E σ h (.bool b) = if b = true then vcOps T (⟨i, d, none, p⟩ :: os) K E (σ.put (some t) (.bool true)) h else vcOps T os K E ((σ.put (some t) (.bool false)).put d (.tuple [])) h := by
  rw [guard_t, ite_imp]
theorem guard_bf {i : Ins Opd} {d : Option Nat} {os : List OpI} {K : Fr → AHeap → Prop} {t : Nat} {p b : Bool} : guard T i d t false p os K E σ h (.bool b) = if b = true then vcOps T os K E ((σ.put (some t) (.bool true)).put d (.tuple [])) h else vcOps T (⟨i, d, none, p⟩ :: os) K E (σ.put (some t) (.bool false)) h := by
  rw [guard_f, ite_imp']

/-! ### Lists as slices -/
def encS (l : List (List UInt8)) : List (List D) := l.map fun s => [.str s]
def encI (l : List Int) : List (List D) := l.map fun c => [.int .i64 c]
theorem len_encS {l : List (List UInt8)} : (encS l).length = l.length := by simp [encS]
theorem len_encI {l : List Int} : (encI l).length = l.length := by simp [encI]
theorem encS_get {l : List (List UInt8)} {i : Nat} : (encS l)[i]? = l[i]?.map fun s => [.str s] := by simp [encS]
theorem encI_get {l : List Int} {i : Nat} : (encI l)[i]? = l[i]?.map fun c => [.int .i64 c] := by simp [encI]
theorem askE_encS {K : D → AHeap → Prop} {l : List (List UInt8)} {i : Int} : askE 1 K h (encS l) i = ((0 ≤ i ∧ i < l.length) ∧ ∀ x, l[i.toNat]? = some x → K (.eptr [.str x] 0) h) := askE_map fun _ => rfl
theorem askE_encI {K : D → AHeap → Prop} {l : List Int} {i : Int} : askE 1 K h (encI l) i = ((0 ≤ i ∧ i < l.length) ∧ ∀ x, l[i.toNat]? = some x → K (.eptr [.int .i64 x] 0) h) := askE_map fun _ => rfl
theorem encS_app {l : List (List UInt8)} {x : List UInt8} : encS l ++ [[.str x]] = encS (l ++ [x]) := by simp [encS]
theorem encI_app {l : List Int} {x : Int} : encI l ++ [[.int .i64 x]] = encI (l ++ [x]) := by simp [encI]
def decS : List (List D) → Option (List (List UInt8))
  | [] => some []
  | [.str s] :: l => (decS l).map (s :: ·)
  | _ => none
theorem decS_enc (l : List (List UInt8)) : decS (encS l) = some l := by
  induction l with
  | nil => rfl
  | cons s l ih => show (decS (encS l)).map _ = _; rw [ih]; rfl
theorem decS_some : ∀ {l : List (List D)} {x : List (List UInt8)}, decS l = some x → l = encS x
  | [], x, h => by cases h; rfl
  | [.str s] :: l, x, h => by
    simp only [decS, Option.map_eq_some_iff] at h
    obtain ⟨y, h1, rfl⟩ := h
    rw [decS_some h1]; rfl
def decI : List (List D) → Option (List Int)
  | [] => some []
  | [.int .i64 s] :: l => (decI l).map (s :: ·)
  | _ => none
theorem decI_enc (l : List Int) : decI (encI l) = some l := by
  induction l with
  | nil => rfl
  | cons s l ih => show (decI (encI l)).map _ = _; rw [ih]; rfl
theorem decI_some : ∀ {l : List (List D)} {x : List Int}, decI l = some x → l = encI x
  | [], x, h => by cases h; rfl
  | [.int .i64 s] :: l, x, h => by
    simp only [decI, Option.map_eq_some_iff] at h
    obtain ⟨y, h1, rfl⟩ := h
    rw [decI_some h1]; rfl
/-- A slice that begins as nil and grows. -/
def ownD (r n : Nat) : D := if n = 0 then .nilsl else .row r (n + 2) 0 n
def ownH (h : AHeap) (r sz : Nat) (xs : List (List D)) : AHeap := if xs = [] then h else h.set r (.row sz (xs.length + 2) xs false)
theorem ownD_zero {r : Nat} : ownD r 0 = .nilsl := rfl
theorem ownD_pos {r n : Nat} (h : n ≠ 0) : ownD r n = .row r (n + 2) 0 n := by simp [ownD, h]
theorem ownH_nil {h : AHeap} {r sz : Nat} : ownH h r sz [] = h := rfl
theorem ownH_pos {h : AHeap} {r sz : Nat} {xs : List (List D)} (e : xs ≠ []) : ownH h r sz xs = h.set r (.row sz (xs.length + 2) xs false) := by simp [ownH, e]
end Go.Proofs.Ytaimobfakcompaa.Zz
