/- Running code by laws, more: where a choice is already made, the other way is not looked at. -/
import Derived.Test.YthpgepillaeldaaDoorZV
import Derived.Laws.Externs
import Derived.KernelRfl
set_option linter.unusedVariables false
set_option linter.unusedSimpArgs false
namespace Go.Proofs.YthpgepillaeldaaDoor.Zz
variable {T : Tab} {K : Ex → Fr → AHeap → Prop} {E : List DDef → D → AHeap → Prop} {σ : Fr} {h : AHeap}

theorem ite_imp {b : Bool} {A B : Prop} : ((b = true → A) ∧ (b = false → B)) = if b = true then A else B := by
  cases b <;> simp
theorem ite_imp' {b : Bool} {A B : Prop} : ((b = false → A) ∧ (b = true → B)) = if b = true then B else A := by
  cases b <;> simp
theorem choose_b {c : Opd} {a b : Stm} {k : List Item} {t : Bool} : pickC T K E c a b k σ h (.bool t) = if t = true then vc T a (todo T K E k) E (σ.mark c true) h else vc T b (todo T K E k) E (σ.mark c false) h := by
  rw [pickC_bool, ite_imp]
theorem guard_bt {i : Ins Opd} {d : Option Nat} {os : List OpI} {K : Fr → AHeap → Prop} {t : Nat} {p b : Bool} : guard T i d t true p os K E σ h (.bool b) = if b = true then vcOps T (⟨i, d, none, p⟩ :: os) K E (σ.put (some t) (.bool true)) h else vcOps T os K E ((σ.put (some t) (.bool false)).put d (.tuple [])) h := by
  rw [guard_t, ite_imp]
theorem guard_bf {i : Ins Opd} {d : Option Nat} {os : List OpI} {K : Fr → AHeap → Prop} {t : Nat} {p b : Bool} : guard T i d t false p os K E σ h (.bool b) = if b = true then vcOps T os K E ((σ.put (some t) (.bool true)).put d (.tuple [])) h else vcOps T (⟨i, d, none, p⟩ :: os) K E (σ.put (some t) (.bool false)) h := by
  rw [guard_f, ite_imp']

/-! ### Lists as slices -/
def encS (l : List (List UInt8)) : List (List D) := l.map fun s => [.str s]
def encI (l : List Int) : List (List D) := l.map fun c => [.int .i64 c]
theorem len_encS {l : List (List UInt8)} : (encS l).length = l.length := by simp [encS]
theorem len_encI {l : List Int} : (encI l).length = l.length := by simp [encI]
theorem encS_get {l : List (List UInt8)} {i : Nat} : (encS l)[i]? = l[i]?.map fun s => [.str s] := by simp [encS]
theorem encI_get {l : List Int} {i : Nat} : (encI l)[i]? = l[i]?.map fun c => [.int .i64 c] := by simp [encI]
theorem askE_encS {K : D → AHeap → Prop} {l : List (List UInt8)} {i : Int} : askE 1 K h (encS l) i = ((0 ≤ i ∧ i < l.length) ∧ ∀ x, l[i.toNat]? = some x → K (.eptr [.str x] 0) h) := askE_map fun _ => rfl
theorem askE_encI {K : D → AHeap → Prop} {l : List Int} {i : Int} : askE 1 K h (encI l) i = ((0 ≤ i ∧ i < l.length) ∧ ∀ x, l[i.toNat]? = some x → K (.eptr [.int .i64 x] 0) h) := askE_map fun _ => rfl
theorem encS_app {l : List (List UInt8)} {x : List UInt8} : encS l ++ [[.str x]] = encS (l ++ [x]) := by simp [encS]
theorem encI_app {l : List Int} {x : Int} : encI l ++ [[.int .i64 x]] = encI (l ++ [x]) := by simp [encI]
def decS : List (List D) → Option (List (List UInt8))
  | [] => some []
  | [.str s] :: l => (decS l).map (s :: ·)
  | _ => none
theorem decS_enc (l : List (List UInt8)) : decS (encS l) = some l := by
  induction l with
  | nil => rfl
  | cons s l ih => show (decS (encS l)).map _ = _; rw [ih]; rfl
theorem decS_some : ∀ {l : List (List D)} {x : List (List UInt8)}, decS l = some x → l = encS x
  | [], x, h => by cases h; rfl
  | [.str s] :: l, x, h => by
    simp only [decS, Option.map_eq_some_iff] at h
    obtain ⟨y, h1, rfl⟩ := h
    rw [decS_some h1]; rfl
def decI : List (List D) → Option (List Int)
  | [] => some []
  | [.int .i64 s] :: l => (decI l).map (s :: ·)
  | _ => none
theorem decI_enc (l : List Int) : decI (encI l) = some l := by
  induction l with
  | nil => rfl
  | cons s l ih => show (decI (encI l)).map _ = _; rw [ih]; rfl
theorem decI_some : ∀ {l : List (List D)} {x : List Int}, decI l = some x → l = encI x
  | [], x, h => by cases h; rfl
  | [.int .i64 s] :: l, x, h => by
    simp only [decI, Option.map_eq_some_iff] at h
    obtain ⟨y, h1, rfl⟩ := h
    rw [decI_some h1]; rfl
/-- A slice that begins as nil and grows. -/
def ownD (r n : Nat) : D := if n = 0 then .nilsl else .row r (n + 2) 0 n
def ownH (h : AHeap) (r sz : Nat) (xs : List (List D)) : AHeap := if xs = [] then h else h.set r (.row sz (xs.length + 2) xs false)
theorem ownD_zero {r : Nat} : ownD r 0 = .nilsl := rfl
theorem ownD_pos {r n : Nat} (h : n ≠ 0) : ownD r n = .row r (n + 2) 0 n := by simp [ownD, h]
theorem ownH_nil {h : AHeap} {r sz : Nat} : ownH h r sz [] = h := rfl
theorem ownH_pos {h : AHeap} {r sz : Nat} {xs : List (List D)} (e : xs ≠ []) : ownH h r sz xs = h.set r (.row sz (xs.length + 2) xs false) := by simp [ownH, e]
/-! ### Calls that the model answers at once -/
def extOk (P : Program) (f : FuncId) (n : String) : Bool :=
  match P.funcs[f]? with
  | some fn => fn.name == n && fn.origin == "" && fn.body.isNone
  | none => false
theorem XCall.of_row {P : Program} {f : FuncId} {n : String} {e : Array Value → Sem Value} {args : List D} {d : D} (h : extOk P f n = true) (h1 : Extern.allNextRows.lookup n = none) (h2 : Extern.allGenericRows.lookup n = none) (h3 : Extern.allTypedRows.lookup n = none)
    (h4 : Extern.allRows.lookup n = some e) (hn : (n == "runtime.NumGoroutine") = false)
    (he : ∀ (κ : Kap) (w : World) (vs : Array Value), RepL κ w vs.toList args → ∃ v, (e vs).run P w = .ok v w ∧ Rep κ w v d) : XCall P f args d := fun κ w vs hr => by
  unfold extOk at h
  split at h
  · rename_i fn hf
    simp only [Bool.and_eq_true, beq_iff_eq] at h
    obtain ⟨⟨k1, k2⟩, k3⟩ := h
    have o1 : Extern.allNextRows.lookup "" = none := by kernel_rfl
    have f1 : Extern.findNext fn = none := by simp only [Extern.findNext, k1, k2, h1, o1]; rfl
    have f2 : Extern.find fn = some e := by simp only [Extern.find, k1, h2, h3, h4]; rfl
    obtain ⟨v, a, b⟩ := he κ w vs hr
    exact ⟨v, by rw [run_callFunc_extern hf (by rw [k1]; exact hn) k3 f1 f2, a]; rfl, b⟩
  · cases h
theorem extRow_bits : Extern.allNextRows.lookup "math.Float64bits" = none ∧ Extern.allGenericRows.lookup "math.Float64bits" = none ∧ Extern.allTypedRows.lookup "math.Float64bits" = none ∧ Extern.allRows.lookup "math.Float64bits" = some Extern.MathFloatBits.float64bits :=
  ⟨by kernel_rfl, by kernel_rfl, by kernel_rfl, by kernel_rfl⟩
theorem extRow_from : Extern.allNextRows.lookup "math.Float64frombits" = none ∧ Extern.allGenericRows.lookup "math.Float64frombits" = none ∧ Extern.allTypedRows.lookup "math.Float64frombits" = none ∧ Extern.allRows.lookup "math.Float64frombits" = some Extern.MathFloatBits.float64frombits :=
  ⟨by kernel_rfl, by kernel_rfl, by kernel_rfl, by kernel_rfl⟩
theorem extRow_trunc : Extern.allNextRows.lookup "math.archTrunc" = none ∧ Extern.allGenericRows.lookup "math.archTrunc" = none ∧ Extern.allTypedRows.lookup "math.archTrunc" = none ∧ Extern.allRows.lookup "math.archTrunc" = some (Extern.MathFloor.toIntegral "math.archTrunc" .zero) :=
  ⟨by kernel_rfl, by kernel_rfl, by kernel_rfl, by kernel_rfl⟩
def xBits : List D → Option D
  | [.float .f64 b] => some (.int .u64 b)
  | _ => none
def xFrom : List D → Option D
  | [.int .u64 n] => some (.float .f64 n.toNat)
  | _ => none
/-- Of numbers alone, and of what is no number where its bits stay. -/
def xTrunc : List D → Option D
  | [.float .f64 x] => match FloatKind.f64.decode x with
    | .nan _ t => if FloatKind.f64.format.quiet t = t then some (.float .f64 x) else none
    | d => some (.float .f64 (FloatKind.f64.encode (d.integral .zero)))
  | _ => none
theorem xBits_ok {P : Program} {f : FuncId} (h : extOk P f "math.Float64bits" = true) (args : List D) (d : D) (e : xBits args = some d) : XCall P f args d := by
  unfold xBits at e
  split at e
  · cases e
    refine .of_row h extRow_bits.1 extRow_bits.2.1 extRow_bits.2.2.1 extRow_bits.2.2.2 (by decide) fun κ w vs hr => ?_
    obtain ⟨l⟩ := vs
    cases hr with
    | cons a t => cases t; cases a; exact ⟨_, rfl, .int _ _⟩
  · cases e
theorem xFrom_ok {P : Program} {f : FuncId} (h : extOk P f "math.Float64frombits" = true) (args : List D) (d : D) (e : xFrom args = some d) : XCall P f args d := by
  unfold xFrom at e
  split at e
  · cases e
    refine .of_row h extRow_from.1 extRow_from.2.1 extRow_from.2.2.1 extRow_from.2.2.2 (by decide) fun κ w vs hr => ?_
    obtain ⟨l⟩ := vs
    cases hr with
    | cons a t => cases t; cases a; exact ⟨_, rfl, .float _ _⟩
  · cases e
def trunc0 (x : Nat) : Sem Value :=
  match FloatKind.f64.decode x with
  | .nan s t =>
      if FloatKind.f64.format.quiet t = t then pure (.float .f64 x) else do
      let kept ← choose (.extern "math.Floor,Ceil,Trunc,RoundToEven.signallingNaN kept" 2)
      pure (.float .f64 (if kept == 1 then x else FloatKind.f64.encode (.nan s (FloatKind.f64.format.quiet t))))
  | d => pure (.float .f64 (FloatKind.f64.encode (d.integral .zero)))
theorem trunc0_run {P : Program} {κ : Kap} {w : World} {x : Nat} {d : D} (e : (match FloatKind.f64.decode x with
    | .nan _ t => if FloatKind.f64.format.quiet t = t then some (D.float .f64 x) else none
    | d => some (D.float .f64 (FloatKind.f64.encode (d.integral .zero)))) = some d) : ∃ v, (trunc0 x).run P w = .ok v w ∧ Rep κ w v d := by
  unfold trunc0
  cases hd : FloatKind.f64.decode x with
  | nan s t =>
    rw [hd] at e
    simp only at e ⊢
    split at e
    · rename_i hq; cases e
      exact ⟨_, by rw [if_pos hq]; rfl, .float _ _⟩
    · cases e
  | infinity s => rw [hd] at e; cases e; exact ⟨_, rfl, .float _ _⟩
  | number s m i => rw [hd] at e; cases e; exact ⟨_, rfl, .float _ _⟩
theorem xTrunc_ok {P : Program} {f : FuncId} (h : extOk P f "math.archTrunc" = true) (args : List D) (d : D) (e : xTrunc args = some d) : XCall P f args d := by
  unfold xTrunc at e
  split at e
  · refine .of_row h extRow_trunc.1 extRow_trunc.2.1 extRow_trunc.2.2.1 extRow_trunc.2.2.2 (by decide) fun κ w vs hr => ?_
    obtain ⟨l⟩ := vs
    cases hr with
    | cons a t =>
      cases t; cases a
      have e0 : Extern.MathFloor.toIntegral "math.archTrunc" .zero #[.float .f64 ‹Nat›] = trunc0 ‹Nat› := rfl
      rw [e0]
      exact trunc0_run e
  · cases e
/-! ### Floats -/
def fltK (o : Option Nat) (K : D → AHeap → Prop) (h : AHeap) : Prop :=
  match o with
  | some r => K (.float .f64 r) h
  | none => ∀ r, FloatKind.f64.format.order r r = none → K (.float .f64 r) h
theorem i_farith {op : BinOp} {a b : Nat} {K E : D → AHeap → Prop} : vcI T (.farith op (.float .f64 a) (.float .f64 b)) h K E = (isArithF op = true ∧ fltK (floatBits op .f64 a b) K h) := rfl
theorem fltK_some {r : Nat} {K : D → AHeap → Prop} : fltK (some r) K h = K (.float .f64 r) h := rfl
theorem fltK_none {K : D → AHeap → Prop} : fltK none K h = ∀ r, FloatKind.f64.format.order r r = none → K (.float .f64 r) h := rfl
theorem v_floatInt {k : IntKind} {b : Nat} : valP (.conv (.floatInt k) (.float .f64 b)) = (floatToIntVal .f64 b k).map (.int k) := rfl
theorem v_floatFloat {b : Nat} : valP (.conv .floatFloat (.float .f64 b)) = some (.float .f64 b) := rfl
end Go.Proofs.YthpgepillaeldaaDoor.Zz
