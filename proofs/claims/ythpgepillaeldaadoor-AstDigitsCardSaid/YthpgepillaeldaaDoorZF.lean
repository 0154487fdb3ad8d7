/- The instructions that reckon. -/
import Derived.Test.YthpgepillaeldaaDoorZE
import Derived.Laws.FloatArith
set_option linter.unusedVariables false
set_option linter.unusedSimpArgs false
namespace Go.Proofs.YthpgepillaeldaaDoor.Zz
variable {P : Program} {κ : Kap} {w : World}

/-- What a pure instruction's operation comes to. -/
def Val (P : Program) (κ : Kap) (w : World) (s : Sem Next) (d : D) : Prop := ∃ v, s.run P w = .ok (.value v) w ∧ Rep κ w v d

theorem Val.of {s : Sem Value} {v : Value} {d : D} (hs : s.run P w = .ok v w) (r : Rep κ w v d) : Val P κ w (do let x ← s; pure (Next.value x)) d :=
  ⟨v, by simp only [Sem.run_bind, hs, Result.andThen, Sem.run_pure], r⟩

theorem intEv_sound {op : BinOp} {k : IntKind} {x y : Int} {d : D} (e : intEv op k x y = some d) (h1 : op ≠ .shl) (h2 : op ≠ .shr) (t : TypeId) :
    ∃ v, (binOp op t (.int k x) (.int k y)).run P w = .ok v w ∧ Rep κ w v d := by
  cases op <;> simp only [intEv, Option.some.injEq, reduceCtorEq] at e
  all_goals first
    | (subst e; exact ⟨_, by simp only [binOp_add, binOp_sub, binOp_mul, binOp_and, binOp_or, binOp_xor, binOp_andNot, binOp_eql, binOp_neq, binOp_lss, binOp_leq, binOp_gtr, binOp_geq]; rfl, by constructor⟩)
    | (split at e
       · cases e
       · rename_i hy; cases e; exact ⟨_, by simp [binOp, Op.intDiv, hy]; rfl, by constructor⟩)
    | (exact absurd rfl h1)
    | (exact absurd rfl h2)

theorem shEv_sound {op : BinOp} {k k' : IntKind} {x y : Int} {d : D} (e : shEv op k x y = some d) (t : TypeId) :
    ∃ v, (binOp op t (.int k x) (.int k' y)).run P w = .ok v w ∧ Rep κ w v d := by
  unfold shEv at e
  split at e
  · cases e
  · rename_i hy
    cases op <;> simp only [Option.some.injEq, reduceCtorEq] at e
    all_goals (subst e; exact ⟨_, by simp [binOp, Op.shift, hy]; rfl, by constructor⟩)

theorem toList_mk (l : List UInt8) : (⟨l.toArray⟩ : ByteArray).toList = l := by simp
theorem size_mk (l : List UInt8) : (⟨l.toArray⟩ : ByteArray).size = l.length := by simp [ByteArray.size]
theorem mk_append (a b : List UInt8) : (⟨a.toArray⟩ ++ ⟨b.toArray⟩ : ByteArray) = ⟨(a ++ b).toArray⟩ := by
  apply ByteArray.ext
  simp

theorem strEv_sound {op : BinOp} {x y : List UInt8} {d : D} (e : strEv op x y = some d) (t : TypeId) :
    ∃ v, (binOp op t (.string ⟨x.toArray⟩) (.string ⟨y.toArray⟩)).run P w = .ok v w ∧ Rep κ w v d := by
  cases op <;> simp only [strEv, Option.some.injEq, reduceCtorEq] at e
  all_goals first
    | (subst e; exact ⟨_, by simp only [binOp, Op.stringOp, toList_mk]; rfl, by constructor⟩)
    | skip
  split at e
  · rename_i hl
    cases e
    refine ⟨.string ⟨(x ++ y).toArray⟩, ?_, .str _ (by simpa using hl)⟩
    have h1 : ¬ (9223372036854775807 < (x.length : Int) + (y.length : Int)) := by omega
    simp only [binOp, Op.stringOp, size_mk, IntKind.max_i64, mk_append]
    rw [if_neg (by push_cast; omega)]
    rfl
  · cases e

theorem eqGuard_prim {op : BinOp} {t : TypeId} {x y : Operand} {u v : Value} (hu : (∀ c, u ≠ .agg c) ∧ u ≠ .nilIface) : eqGuard op t x y u v = pure () := by
  unfold eqGuard
  cases op <;> try rfl
  all_goals
    simp only [Bool.not_true, Bool.false_eq_true, if_false, Bool.not_eq_true']
    split
    · exact absurd rfl hu.2
    · exact absurd rfl (hu.1 _)
    · rfl

theorem fltEv_sound {op : BinOp} {k : FloatKind} {x y : Nat} {d : D} (e : fltEv op k x y = some d) (t : TypeId) :
    ∃ v, (binOp op t (.float k x) (.float k y)).run P w = .ok v w ∧ Rep κ w v d := by
  cases op <;> simp only [fltEv, Option.some.injEq, reduceCtorEq] at e
  all_goals (subst e; exact ⟨_, by simp only [binOp, Op.floatCmp, ne_eq, not_true_eq_false, if_false]; rfl, by constructor⟩)
theorem binEv_sound {op : BinOp} {u v : Value} {x y d : D} (hu : Rep κ w u x) (hv : Rep κ w v y) (e : binEv op x y = some d) (t : TypeId) (p q : Operand) :
    ∃ r, (do eqGuard op t p q u v; binOp op t u v).run P w = .ok r w ∧ Rep κ w r d := by
  unfold binEv at e
  split at e
  · rename_i k x k' y
    cases hu; cases hv
    rw [eqGuard_prim ⟨fun _ => by simp, by simp⟩]
    simp only [pure_bind]
    split at e
    · exact shEv_sound e t
    · exact shEv_sound e t
    · rename_i h1 h2
      split at e
      · rename_i hk
        subst hk
        exact intEv_sound e h1 h2 t
      · cases e
  · cases hu; cases hv
    rw [eqGuard_prim ⟨fun _ => by simp, by simp⟩]
    simp only [pure_bind]
    exact strEv_sound e t
  · cases hu; cases hv
    rw [eqGuard_prim ⟨fun _ => by simp, by simp⟩]
    simp only [pure_bind]
    split at e
    · rename_i hk
      subst hk
      exact fltEv_sound e t
    · cases e
  · cases e

theorem unEv_sound {op : UnOp} {u : Value} {x d : D} (hu : Rep κ w u x) (e : unEv op x = some d) : ∃ r, (Op.unary op u).run P w = .ok r w ∧ Rep κ w r d := by
  unfold unEv at e
  split at e
  · cases hu
    cases op <;> simp only [Option.some.injEq, reduceCtorEq] at e
    all_goals (subst e; exact ⟨_, rfl, by constructor⟩)
  · cases hu
    cases op <;> simp only [Option.some.injEq, reduceCtorEq] at e
    all_goals (subst e; exact ⟨_, rfl, by constructor⟩)
  · cases hu
    cases op <;> simp only [Option.some.injEq, reduceCtorEq] at e
    all_goals (subst e; exact ⟨_, rfl, by constructor⟩)
  · cases e

theorem add_off (b o k : Nat) : (⟨b, o, none⟩ : Addr).add k = ⟨b, o + k, none⟩ := by
  unfold Addr.add
  split <;> simp_all

theorem partD_sound {cs : Array Value} {ds : List D} (h : RepL κ w cs.toList ds) {t : TypeId} {off : Nat} {k : Option Nat} {d : D} (hs : shapeOf P t = some k) (e : partD ds off k = some d) :
    ∃ v, (part t cs off).run P w = .ok v w ∧ Rep κ w v d := by
  cases k with
  | none =>
    obtain ⟨h1, _⟩ := run_isAgg_none hs w
    simp only [partD] at e
    obtain ⟨v, hv, r⟩ := h.get off d e
    have hv' : cs[off]? = some v := by simpa using hv
    exact ⟨v, by simp [part, h1, hv'], r⟩
  | some n =>
    obtain ⟨h1, h2⟩ := run_isAgg_some hs w
    simp only [partD] at e
    split at e
    · rename_i hl
      cases e
      refine ⟨.agg (cs.extract off (off + n)), by simp [part, h1, run_sizeOf h2], RepL.agg ?_⟩
      refine RepL.of_get ?_ fun i d hd => ?_
      · have := h.length
        simp at this ⊢
        omega
      · rw [List.getElem?_take] at hd
        split at hd
        · rename_i hi
          rw [List.getElem?_drop] at hd
          obtain ⟨v, hv, r⟩ := h.get _ _ hd
          refine ⟨v, ?_, r⟩
          have hv' : cs[off + i]? = some v := by simpa using hv
          have hlt := (Array.getElem?_eq_some_iff.1 hv').1
          simp only [Array.toList_extract, List.extract_eq_take_drop]
          rw [List.getElem?_take, if_pos (by omega), List.getElem?_drop]
          exact hv
        · cases hd
    · cases e
end Go.Proofs.YthpgepillaeldaaDoor.Zz
