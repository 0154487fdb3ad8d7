/- From the loaded program's operations to the compact form. -/
import Derived.Test.YthpgepillaeldaaDoorZC
import Derived.Laws.Entries
import Derived.Laws.Cells
set_option linter.unusedVariables false
set_option linter.unusedSimpArgs false
namespace Go.Proofs.YthpgepillaeldaaDoor.Zz

/-! ### Constants -/
def absC : Value → Option D
  | .bool b => some (.bool b)
  | .int k n => some (.int k n)
  | .float k b => some (.float k b)
  | .string s => if s.data.toList.length ≤ 9223372036854775807 then some (.str s.data.toList) else none
  | .pointer none => some .nilptr
  | .slice none 0 0 => some .nilsl
  | .nilIface => some .nilif
  | .nilFunc => some .nilfunc
  | .map none => some .nilmap
  | _ => none
def absL : List Value → Option (List D)
  | [] => some []
  | v :: vs => match absC v, absL vs with
    | some d, some ds => some (d :: ds)
    | _, _ => none
def absV : Value → Option D
  | .agg cs => (absL cs.toList).map .agg
  | v => absC v

theorem absC_rep {κ : Kap} {w : World} {v : Value} {d : D} (h : absC v = some d) : Rep κ w v d := by
  unfold absC at h
  split at h
  all_goals first
    | (cases h; done)
    | (cases h; first | exact .bool _ | exact .int _ _ | exact .float _ _ | exact .nilptr | exact .nilsl | exact .nilif | exact .nilfunc | exact .nilmap)
    | (split at h
       · cases h
         rename_i s hs
         have := Rep.str (κ := κ) (w := w) s.data.toList hs
         simpa using this
       · cases h)
theorem absL_rep {κ : Kap} {w : World} : ∀ {vs : List Value} {ds : List D}, absL vs = some ds → RepL κ w vs ds
  | [], ds, h => by simp [absL] at h; subst h; exact .nil
  | v :: vs, ds, h => by
    simp only [absL] at h
    split at h
    · rename_i d ds' h1 h2
      cases h
      exact .cons (absC_rep h1) (absL_rep h2)
    · cases h

theorem RepL.length {κ : Kap} {w : World} {vs : List Value} {ds : List D} (h : RepL κ w vs ds) : vs.length = ds.length := by
  induction h with
  | nil => rfl
  | cons _ _ ih => simp [ih]
theorem RepL.get {κ : Kap} {w : World} {vs : List Value} {ds : List D} (h : RepL κ w vs ds) : ∀ (i : Nat) (d : D), ds[i]? = some d → ∃ v, vs[i]? = some v ∧ Rep κ w v d := by
  induction h with
  | nil => intro i d e; simp at e
  | cons a _ ih =>
    intro i d e
    cases i with
    | zero => simp at e; subst e; exact ⟨_, by simp, a⟩
    | succ i => simp at e; simpa using ih i d e
theorem RepL.of_get {κ : Kap} {w : World} : ∀ {vs : List Value} {ds : List D}, vs.length = ds.length → (∀ (i : Nat) (d : D), ds[i]? = some d → ∃ v, vs[i]? = some v ∧ Rep κ w v d) → RepL κ w vs ds
  | [], [], _, _ => .nil
  | v :: vs, d :: ds, hl, h => by
    obtain ⟨v', e, r⟩ := h 0 d (by simp)
    simp at e
    subst e
    exact .cons r (RepL.of_get (by simpa using hl) fun i d hd => by simpa using h (i + 1) d (by simpa using hd))
  | [], _ :: _, hl, _ => by simp at hl
  | _ :: _, [], hl, _ => by simp at hl
theorem RepL.mono {κ κ' : Kap} {w w' : World} {vs : List Value} {ds : List D} (h : RepL κ w vs ds) (le : Le κ w κ' w') : RepL κ' w' vs ds := by
  induction h with
  | nil => exact .nil
  | cons a _ ih => exact .cons (a.mono le) ih
theorem RepL.append {κ : Kap} {w : World} {vs us : List Value} {ds es : List D} (h : RepL κ w vs ds) (k : RepL κ w us es) : RepL κ w (vs ++ us) (ds ++ es) := by
  induction h with
  | nil => exact k
  | cons a _ ih => exact .cons a ih
theorem RepL.agg {κ : Kap} {w : World} {cs : Array Value} {ds : List D} (h : RepL κ w cs.toList ds) : Rep κ w (.agg cs) (.agg ds) :=
  .agg (by have := h.length; simpa using this) fun i d hd => by
    obtain ⟨v, e, r⟩ := h.get i d hd
    have : cs.getD i (.tuple #[]) = v := by
      have e' : cs[i]? = some v := by simpa using e
      simp [Array.getD_eq_getD_getElem?, e']
    rw [this]; exact r
theorem RepL.tuple {κ : Kap} {w : World} {cs : Array Value} {ds : List D} (h : RepL κ w cs.toList ds) : Rep κ w (.tuple cs) (.tuple ds) :=
  .tuple (by have := h.length; simpa using this) fun i d hd => by
    obtain ⟨v, e, r⟩ := h.get i d hd
    have : cs.getD i (.tuple #[]) = v := by
      have e' : cs[i]? = some v := by simpa using e
      simp [Array.getD_eq_getD_getElem?, e']
    rw [this]; exact r
theorem RepL.of_arr {κ : Kap} {w : World} {cs : Array Value} {ds : List D} (hs : cs.size = ds.length) (hr : ∀ (i : Nat) (d : D), ds[i]? = some d → Rep κ w (cs.getD i (.tuple #[])) d) : RepL κ w cs.toList ds :=
  RepL.of_get (by simpa using hs) fun i d hd => by
    have hi : i < cs.size := by
      have := (List.getElem?_eq_some_iff.1 hd).1
      omega
    have hr' := hr i d hd
    refine ⟨cs[i], by simp [hi], ?_⟩
    simpa [Array.getD, hi] using hr'
theorem absV_rep {κ : Kap} {w : World} {v : Value} {d : D} (h : absV v = some d) : Rep κ w v d := by
  unfold absV at h
  split at h
  · rename_i cs
    cases e : absL cs.toList with
    | none => simp [e] at h
    | some ds =>
      simp [e] at h
      subst h
      exact (absL_rep e).agg
  · exact absC_rep h

def opd [Globs] : Operand → Option Opd
  | .tmp t => some (.t t)
  | .const v => (absV v).map .c
  | .func f => some (.f f)
  | .global g => (Globs.of g).map fun ds => .c (.eptr ds 0)
def opds [Globs] (l : List Operand) : Option (List Opd) := l.mapM opd
def opdO [Globs] : Option Operand → Option (Option Opd)
  | none => some none
  | some x => (opd x).map some

/-- How a frame stands. -/
inductive DefRep (κ : Kap) (w : World) : Deferred → DDef → Prop
  | mk {fn : Fn} {cap args : Array Value} {dc da : List D} (hc : RepL κ w cap.toList dc) (ha : RepL κ w args.toList da) : DefRep κ w { target := .fn fn cap, args := args } { fn := fn, cap := dc, args := da }
inductive DefsRep (κ : Kap) (w : World) : List Deferred → List DDef → Prop
  | nil : DefsRep κ w [] []
  | cons {d : Deferred} {e : DDef} {ds : List Deferred} {es : List DDef} (h : DefRep κ w d e) (t : DefsRep κ w ds es) : DefsRep κ w (d :: ds) (e :: es)
structure Pre [Globs] (κ : Kap) (w : World) (σ : Fr) (n : Nat) (a : Act) : Prop where
  size : a.tmps.size = n
  env : ∀ i, Rep κ w (a.tmps.getD i undef) (σ.env i)
  defs : DefsRep κ w a.defers σ.defs
  glob : GlobRep κ w

theorem DefsRep.mono {κ κ' : Kap} {w w' : World} {a : List Deferred} {b : List DDef} (h : DefsRep κ w a b) (le : Le κ w κ' w') : DefsRep κ' w' a b := by
  induction h with
  | nil => exact .nil
  | cons h _ ih =>
    cases h with
    | mk hc ha => exact .cons (.mk (hc.mono le) (ha.mono le)) ih
theorem Pre.mono [Globs] {κ κ' : Kap} {w w' : World} {σ : Fr} {n : Nat} {a : Act} (h : Pre κ w σ n a) (le : Le κ w κ' w') : Pre κ' w' σ n a :=
  ⟨h.size, fun i => (h.env i).mono le, h.defs.mono le, h.glob.mono le⟩
theorem Pre.put [Globs] {κ : Kap} {w : World} {σ : Fr} {n : Nat} {a : Act} (h : Pre κ w σ n a) (dst : Option Tmp) (hd : ∀ t, dst = some t → t < n) {v : Value} {d : D} (r : Rep κ w v d) : Pre κ w (σ.put dst d) n (a.put dst v) := by
  cases dst with
  | none => exact h
  | some t =>
    have ht := hd t rfl
    refine ⟨by simp [Act.put, h.size], fun i => ?_, h.defs, h.glob⟩
    by_cases e : i = t
    · subst e
      have : i < a.tmps.size := by rw [h.size]; exact ht
      simpa [Act.put, Array.getD_eq_getD_getElem?, this] using r
    · have e' : t ≠ i := fun x => e x.symm
      simpa [Act.put, Array.getD_eq_getD_getElem?, Array.getElem?_setIfInBounds_ne e', e] using h.env i
theorem Pre.forget [Globs] {κ : Kap} {w : World} {σ : Fr} {n : Nat} {a : Act} (h : Pre κ w σ n a) : Pre κ w σ.forget n a := ⟨h.size, fun _ => .undef _, h.defs, h.glob⟩

theorem opd_rep [Globs] {κ : Kap} {w : World} {σ : Fr} {n : Nat} {a : Act} (h : Pre κ w σ n a) {x : Operand} {y : Opd} (e : opd x = some y) : Rep κ w (a.eval x) (σ.ev y) := by
  cases x with
  | tmp t => simp [opd] at e; subst e; exact h.env t
  | const v =>
    simp only [opd, Option.map_eq_some_iff] at e
    obtain ⟨d, e1, rfl⟩ := e
    exact absV_rep e1
  | func f =>
    simp [opd] at e
    subst e
    exact .func (by rfl) (by rfl) (fun i d hd => by simp at hd) (fun i d hd => by simp at hd)
  | global g =>
    simp only [opd, Option.map_eq_some_iff] at e
    obtain ⟨ds, e1, rfl⟩ := e
    exact h.glob.rep e1
theorem opds_rep [Globs] {κ : Kap} {w : World} {σ : Fr} {n : Nat} {a : Act} (h : Pre κ w σ n a) : ∀ {l : List Operand} {ys : List Opd}, opds l = some ys → RepL κ w (l.map a.eval) (ys.map σ.ev)
  | [], ys, e => by simp [opds] at e; subst e; exact .nil
  | x :: l, ys, e => by
    simp only [opds, List.mapM_cons, Option.bind_eq_bind, Option.bind_eq_some_iff] at e
    obtain ⟨y, e1, ys', e2, e3⟩ := e
    cases e3
    exact .cons (opd_rep h e1) (opds_rep h e2)

/-! ### Types -/
def fieldsOf (P : Program) (t : TypeId) : Option (Array Field) :=
  match P.underlying t with
  | some (.struct fs) => some fs
  | _ => none
def sizeOfT (P : Program) (t : TypeId) : Option Nat := (P.info? t).map (·.size)
def bytesOfT (P : Program) (t : TypeId) : Option Nat := (P.info? t).map (·.bytes)
def zeroOfT (P : Program) (t : TypeId) : Option D := (P.info? t).bind fun i => i.zero.bind absV
/-- none: one cell; some n: a struct or an array of n cells. -/
def shapeOf (P : Program) (t : TypeId) : Option (Option Nat) :=
  match P.underlying t, sizeOfT P t with
  | some (.struct _), some n => some (some n)
  | some (.array _ _), some n => some (some n)
  | some _, some n => if n = 1 then some none else none
  | _, _ => none
def elemOfSl (P : Program) (t : TypeId) : Option TypeId :=
  match P.underlying t with
  | some (.slice e) => some e
  | _ => none

/-- The equality of a type. -/
def etOf (P : Program) (t : TypeId) : Option ET :=
  match P.underlying t with
  | some .bool => some .bool
  | some (.pointer _) => some .ptr
  | some (.slice _) => some .slnil
  | some (.func _ _ _) => some .funcnil
  | some (.interface _) => some .iface
  | some (.array n e) => match P.underlying e with
    | some (.int _) => if P.eqGuardType P.depth t = false ∧ P.cellsOf e = 1 ∧ (P.info? e).isSome = true then some (.array n .prim) else none
    | _ => none
  | _ => none
def primT (P : Program) (t : TypeId) : Bool :=
  match P.underlying t with
  | some (.int _) | some .string | some (.float _) => true
  | _ => false

def isConstO : Operand → Bool
  | .const _ => true
  | _ => false
def ckOf (P : Program) (s d : TypeId) : Option CK :=
  match P.underlying s, P.underlying d with
  | some (.int _), some (.int k) => some (.intInt k)
  | some (.int _), some (.float .f64) => some .intFloat
  | some (.float .f64), some (.int k) => some (.floatInt k)
  | some (.float .f64), some (.float .f64) => some .floatFloat
  | some .string, some .string => some .same
  | some .string, some (.slice e) => match P.underlying e with
    | some (.int .u8) => some .strBytes
    | _ => none
  | some (.slice e), some .string => match P.underlying e with
    | some (.int .u8) => some .bytesStr
    | _ => none
  | _, _ => none

/-- The parts of a struct's literal: offsets, sizes. -/
def partsOf [Globs] (P : Program) (fs : Array Field) : List (Nat × Operand) → Option (List (Nat × Nat × Opd))
  | [] => some []
  | (i, x) :: ps => match fs[i]?, opd x, partsOf P fs ps with
    | some f, some y, some qs => (sizeOfT P f.type).map fun n => (f.offset, n, y) :: qs
    | _, _, _ => none
def partsOfA [Globs] (sz : Nat) : List (Nat × Operand) → Option (List (Nat × Nat × Opd))
  | [] => some []
  | (i, x) :: ps => match opd x, partsOfA sz ps with
    | some y, some qs => some ((i * sz, sz, y) :: qs)
    | _, _ => none
def partsOfS [Globs] : List (Nat × Operand) → Option (List (Nat × Opd))
  | [] => some []
  | (i, x) :: ps => match opd x, partsOfS ps with
    | some y, some qs => some ((i, y) :: qs)
    | _, _ => none

def isFlt (P : Program) (t : TypeId) : Bool :=
  match P.underlying t with
  | some (.float _) => true
  | _ => false
/-- One operation. asRow: a slice's literal is one that grows. -/
def compI [Globs] (P : Program) (asRow quiet : Bool) (o : Oper) : Option (Ins Opd) :=
  match o.op with
  | .move x | .assign x => (opd x).map .mov
  | .pick c a b => match opd c, opd a, opd b with
    | some c, some a, some b => some (.pick c a b)
    | _, _, _ => none
  | .alloc t => (zeroOfT P t).map fun d => .alloc (cellsD d)
  | .box t x => (opd x).map .box
  | .build t ps => match P.underlying t, zeroOfT P t with
    | some (.struct fs), some z => if fs.toList.all (fun f => (sizeOfT P f.type).isSome) = true then (partsOf P fs ps.toList).map fun qs => .build (cellsD z) qs else none
    | some (.array _ e), some z => match sizeOfT P e with
      | some sz => (partsOfA sz ps.toList).map fun qs => .build (cellsD z) qs
      | none => none
    | _, _ => none
  | .buildSlice t n ps => match elemOfSl P t with
    | some e => match sizeOfT P e, zeroOfT P e with
      | some sz, some z => if n * sz ≤ 16777216 ∧ (cellsD z).length = sz ∧ 0 < sz then (partsOfS ps.toList).map fun qs => .buildSlice sz (cellsD z) n qs asRow else none
      | _, _ => none
    | none => none
  | .load t x => match shapeOf P t, opd x with
    | some n, some y => some (.load n y)
    | _, _ => none
  | .store t x v => match shapeOf P t, sizeOfT P t, opd x, opd v with
    | some _, some n, some y, some u => some (.store n y u)
    | _, _, _, _ => none
  | .nilCheck x => (opd x).map .nilCheck
  | .binOp op t x y _ => match opd x, opd y with
    | some a, some b => match op with
      | .eql => if primT P t then some (.bin .eql a b) else if isConstO x || isConstO y then (etOf P t).map fun e => .eql e false a b else if etOf P t matches some .iface then none else (etOf P t).map fun e => .eql e false a b
      | .neq => if primT P t then some (.bin .neq a b) else if isConstO x || isConstO y then (etOf P t).map fun e => .eql e true a b else if etOf P t matches some .iface then none else (etOf P t).map fun e => .eql e true a b
      | op => if (isArithF op && isFlt P t) = true then some (.farith op a b) else some (.bin op a b)
    | _, _ => none
  | .unOp op _ x => (opd x).map (.un op)
  | .convert s d x => match ckOf P s d, opd x with
    | some c, some y => some (.conv c y)
    | _, _ => none
  | .sliceToArrayPointer t x => match P.underlying t, opd x with
    | some (.array n _), some y => some (.arrPtr n y)
    | _, _ => none
  | .makeInterface t x => match P.underlying t with
    | some (.interface _) => none
    | some _ => (opd x).map (.mkIface t)
    | none => none
  | .makeFunc fn a b => match opds a.toList, opds b.toList with
    | some a, some b => some (.mkFunc fn a b)
    | _, _ => none
  | .slice t x lo hi mx => match opd x, opdO lo, opdO hi, opdO mx with
    | some x, some lo, some hi, some none => match P.underlying t with
      | some .string => some (.slice .str x lo hi none)
      | some (.slice e) => (sizeOfT P e).map fun sz => .slice (.sl sz) x lo hi none
      | some (.array n e) => if sizeOfT P e = some 1 then some (.slice (.arr n) x lo hi none) else none
      | _ => none
    | _, _, _, _ => none
  | .fieldAddr s x f => match fieldsOf P s, opd x with
    | some fs, some y => match fs[f]? with
      | some fd => match sizeOfT P fd.type with
        | some n => if n ≠ 0 then some (.fieldAddr fd.offset y) else none
        | none => none
      | none => none
    | _, _ => none
  | .field s x f => match fieldsOf P s, opd x with
    | some fs, some y => match fs[f]? with
      | some fd => (shapeOf P fd.type).map fun n => .field fd.offset n y
      | none => none
    | _, _ => none
  | .indexAddr t x i => match opd x, opd i with
    | some x, some i => match P.underlying t with
      | some (.array n e) => (sizeOfT P e).map fun sz => .indexAddrA n sz x i
      | some (.slice e) => match sizeOfT P e with
        | some sz => if 0 < sz then some (.indexAddrS sz x i) else none
        | none => none
      | _ => none
    | _, _ => none
  | .index t x i => match opd x, opd i with
    | some x, some i => match P.underlying t with
      | some (.array n e) => match sizeOfT P e, shapeOf P e with
        | some sz, some k => some (.indexA n sz k x i)
        | _, _ => none
      | some .string => some (.indexS x i)
      | _ => none
    | _, _ => none
  | .extract x i => (opd x).map fun y => .extract y i
  | .panic x => (opd x).map .panic
  | .call c => match c.callee with
    | .value f => match opd f, opds c.args.toList with
      | some g, some as => some (if quiet then .qcall g as else .call g as)
      | _, _ => none
    | .builtin b => match b, opds c.args.toList, c.argTypes[0]? with
      | .len, some [x], some t => match P.underlying t with
        | some .string => some (.len .str x)
        | some (.slice _) => some (.len .sl x)
        | some (.array n _) => some (.len (.arr n) x)
        | _ => none
      | .min, some [x, y], _ => some (.minmax false x y)
      | .max, some [x, y], _ => some (.minmax true x y)
      | .append, some [s, x], some t => match elemOfSl P t, c.argTypes.toList with
        | some e, [_, t2] => match sizeOfT P e, bytesOfT P e, zeroOfT P e, P.underlying t2 with
          | some sz, some by_, some z, some (.slice _) => if (cellsD z).length = sz ∧ 0 < sz then some (.append sz by_ false s x) else none
          | some sz, some by_, some z, some .string => if (cellsD z).length = sz ∧ sz = 1 then some (.append sz by_ true s x) else none
          | _, _, _, _ => none
        | _, _ => none
      | _, _, _ => none
    | _ => none
  | .range t x => match P.underlying t with
    | some .string => (opd x).map .srange
    | _ => none
  | .next x b => match b with
    | true => (opd x).map .snext
    | false => none
  | .makeSlice t l c => match elemOfSl P t, opd l, opd c with
    | some e, some l, some c => match sizeOfT P e, bytesOfT P e, zeroOfT P e with
      | some sz, some by_, some z => if (cellsD z).length = 1 ∧ sz = 1 ∧ cellOk z = true ∧ 0 < by_ then some (.makeSlice sz by_ (cellsD z) l c) else none
      | _, _, _ => none
    | _, _, _ => none
  | _ => none
end Go.Proofs.YthpgepillaeldaaDoor.Zz
