/- Running code by laws, more: where a choice is already made, the other way is not looked at. -/
import Derived.Test.YtaimobfakcompaaZV
set_option linter.unusedVariables false
set_option linter.unusedSimpArgs false
namespace Go.Proofs.Ytaimobfakcompaa.Zz
variable {T : Tab} {K : Ex → Fr → AHeap → Prop} {E : List DDef → D → AHeap → Prop} {σ : Fr} {h : AHeap}

theorem ite_imp {b : Bool} {A B : Prop} : ((b = true → A) ∧ (b = false → B)) = if b = true then A else B := by
  cases b <;> simp
theorem ite_imp' {b : Bool} {A B : Prop} : ((b = false → A) ∧ (b = true → B)) = if b = true then B else A := by
  cases b <;> simp
theorem choose_b {c : Opd} {a b : Stm} {k : List Item} {t : Bool} : pickC T K E c a b k σ h (.bool t) = if t = true then vc T a (todo T K E k) E (σ.mark c true) h else vc T b (todo T K E k) E (σ.mark c false) h := by
  rw [pickC_bool, ite_imp]
theorem guard_bt {i : Ins Opd} {d : Option Nat} {os : List OpI} {K : Fr → AHeap → Prop} {t : Nat} {p b : Bool} : guard T i d t true p os K E σ h (.bool b) = if b = true then vcOps T (⟨i, d, none, p⟩ :: os) K E (σ.put (some t) (.bool true)) h else vcOps T os K E ((σ.put (some t) (.bool false)).put d (.tuple [])) h := by
  rw [guard_t, ite_imp]
theorem guard_bf {i : Ins Opd} {d : Option Nat} {os : List OpI} {K : Fr → AHeap → Prop} {t : Nat} {p b : Bool} : guard T i d t false p os K E σ h (.bool b) = if b = true then vcOps T os K E ((σ.put (some t) (.bool true)).put d (.tuple [])) h else vcOps T (⟨i, d, none, p⟩ :: os) K E (σ.put (some t) (.bool false)) h := by
  rw [guard_f, ite_imp']
end Go.Proofs.Ytaimobfakcompaa.Zz
