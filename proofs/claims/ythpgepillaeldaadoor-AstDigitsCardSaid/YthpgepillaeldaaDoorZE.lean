/- Each instruction does what it asks: those that reckon, and those that look. -/
import Derived.Test.YthpgepillaeldaaDoorZD
set_option linter.unusedVariables false
set_option linter.unusedSimpArgs false
namespace Go.Proofs.YthpgepillaeldaaDoor.Zz
variable {P : Program} {κ : Kap} {h : AHeap} {w : World} {σ : Fr} {n : Nat} {a : Act}

/-- What an operation comes to. -/
def UponA [Globs] (P : Program) (κ : Kap) (h : AHeap) (w : World) (K : D → AHeap → Prop) (E : D → AHeap → Prop) : Result Next → Prop
  | .ok (.value v) w' => ∃ κ' h' d, K d h' ∧ Rep κ' w' v d ∧ Inv κ' h' w' ∧ Ev κ h w κ' h' w'
  | .ok .skip w' => ∃ κ' h', K .undef h' ∧ Inv κ' h' w' ∧ Ev κ h w κ' h' w'
  | .ok (.enter f vs) w' => Calls P f vs w' fun e w'' => ∃ o h'' κ'', AOut.to K E o h'' ∧ OutRel κ'' w'' o e ∧ Inv κ'' h'' w'' ∧ Ev κ h w κ'' h'' w''
  | .halt (.panic v) w' => ∃ κ' h' d, E d h' ∧ Rep κ' w' v d ∧ Inv κ' h' w' ∧ Ev κ h w κ' h' w'
  | _ => False

variable {K E : D → AHeap → Prop}
theorem UponA.val [Globs] (hi : Inv κ h w) {v : Value} {d : D} (hk : K d h) (r : Rep κ w v d) : UponA P κ h w K E (.ok (.value v) w) := ⟨κ, h, d, hk, r, hi, Ev.refl κ h w⟩

/-- A Sem of a value that answers v without changing anything. -/
theorem upon_v [Globs] (hi : Inv κ h w) {s : Sem Value} {v : Value} {d : D} (hs : s.run P w = .ok v w) (hk : K d h) (r : Rep κ w v d) : UponA P κ h w K E ((do let x ← s; pure (Next.value x) : Sem Next).run P w) := by
  simp only [Sem.run_bind, hs, Result.andThen, Sem.run_pure]
  exact UponA.val hi hk r

theorem run_underlying' {t : TypeId} {d : TypeDesc} (e : P.underlying t = some d) (w : World) : (underlying t).run P w = .ok d w := run_underlying e w
theorem run_typeInfo {t : TypeId} {i : TypeInfo} (e : P.info? t = some i) (w : World) : (typeInfo t).run P w = .ok i w := by simp [typeInfo, e]
theorem run_sizeOf {t : TypeId} {k : Nat} (e : sizeOfT P t = some k) (w : World) : (sizeOf t).run P w = .ok k w := by
  unfold sizeOfT at e
  cases e1 : P.info? t with
  | none => simp [e1] at e
  | some i => simp [e1] at e; simp [sizeOf, run_typeInfo e1, e]
theorem run_zeroValue {t : TypeId} {d : D} (e : zeroOfT P t = some d) (κ : Kap) (w : World) : ∃ v, (zeroValue t).run P w = .ok v w ∧ Rep κ w v d ∧ ∃ i, P.info? t = some i ∧ i.zero = some v := by
  unfold zeroOfT at e
  cases e1 : P.info? t with
  | none => simp [e1] at e
  | some i =>
    cases e2 : i.zero with
    | none => simp [e1, e2] at e
    | some v =>
      simp [e1, e2] at e
      exact ⟨v, by simp [zeroValue, run_typeInfo e1, e2], absV_rep e, i, rfl, e2⟩
theorem run_isAgg_some {t : TypeId} {k : Nat} (e : shapeOf P t = some (some k)) (w : World) : (isAgg t).run P w = .ok true w ∧ sizeOfT P t = some k := by
  unfold shapeOf at e
  split at e
  · rename_i fs m e1 e2; simp at e; subst e; exact ⟨by simp [isAgg, run_underlying e1], e2⟩
  · rename_i l el m e1 e2; simp at e; subst e; exact ⟨by simp [isAgg, run_underlying e1], e2⟩
  · split at e <;> simp at e
  · simp at e
theorem run_isAgg_none {t : TypeId} (e : shapeOf P t = some none) (w : World) : (isAgg t).run P w = .ok false w ∧ sizeOfT P t = some 1 := by
  unfold shapeOf at e
  split at e
  · simp at e
  · simp at e
  · rename_i d m e1 e2 h1 h2
    split at e
    · rename_i hm
      subst hm
      refine ⟨?_, h2⟩
      cases d <;> first | (simp [isAgg, run_underlying h1]; done) | simp_all
    · simp at e
  · simp at e

/-! ### The cells of a value -/
theorem rep_cells {v : Value} {d : D} (r : Rep κ w v d) (hd : d ≠ .undef) : RepL κ w v.cells.toList (cellsD d) := by
  cases r with
  | undef => exact absurd rfl hd
  | agg hs hr => exact RepL.of_arr hs hr
  | _ => exact .cons (by first | exact .bool _ | exact .int _ _ | exact .float _ _ | exact .str _ ‹_› | exact .nilptr | exact .nilsl | exact .slnil ‹_› | exact .nilfunc | exact .nilif | exact .nilmap | (constructor <;> assumption)) .nil
theorem rep_oneCell {v : Value} {d : D} (r : Rep κ w v d) (hd : cellOk d = true) : v.oneCell' = true ∧ v.cells = #[v] := by
  cases r <;> first | (simp [cellOk] at hd; done) | exact ⟨rfl, rfl⟩
end Go.Proofs.YthpgepillaeldaaDoor.Zz
