/- Frames; the compact form of code; what each instruction asks. -/
import Derived.Laws.FloatArith
import Derived.Test.YthpgepillaeldaaDoorZB
set_option linter.unusedVariables false
set_option linter.unusedSimpArgs false
namespace Go.Proofs.YthpgepillaeldaaDoor.Zz

structure DDef where
  fn : Fn
  cap : List D
  args : List D

structure Fr where
  env : Nat → D
  defs : List DDef

def Fr.put (σ : Fr) (d : Option Nat) (x : D) : Fr :=
  match d with
  | some t => { σ with env := fun i => if i = t then x else σ.env i }
  | none => σ
def Fr.forget (σ : Fr) : Fr := { env := fun _ => .undef, defs := σ.defs }

@[simp] theorem Fr.put_some (σ : Fr) (t : Nat) (x : D) (i : Nat) : (σ.put (some t) x).env i = if i = t then x else σ.env i := rfl
@[simp] theorem Fr.put_none (σ : Fr) (x : D) : σ.put none x = σ := rfl
@[simp] theorem Fr.put_defs (σ : Fr) (d : Option Nat) (x : D) : (σ.put d x).defs = σ.defs := by cases d <;> rfl
@[simp] theorem Fr.forget_defs (σ : Fr) : σ.forget.defs = σ.defs := rfl
@[simp] theorem Fr.forget_put (σ : Fr) (d : Option Nat) (x : D) : (σ.put d x).forget = σ.forget := by simp [Fr.forget]
theorem Fr.ext {σ τ : Fr} (h1 : ∀ i, σ.env i = τ.env i) (h2 : σ.defs = τ.defs) : σ = τ := by
  cases σ; cases τ
  simp only [Fr.mk.injEq]
  exact ⟨funext h1, h2⟩

/-- A frame of which a few slots alone are known. -/
def lookupD : List (Nat × D) → Nat → D
  | [], _ => .undef
  | (j, d) :: l, i => if i = j then d else lookupD l i
def mkFr (l : List (Nat × D)) : Fr := { env := lookupD l, defs := [] }
def mkFrD (l : List (Nat × D)) (ds : List DDef) : Fr := { env := lookupD l, defs := ds }

inductive Opd where
  | t (n : Nat)
  | c (d : D)
  | f (k : Nat)

def Fr.ev (σ : Fr) : Opd → D
  | .t n => σ.env n
  | .c d => d
  | .f k => .func (.func k) [] []

/-- Kinds of equality that are no one of numbers or strings. -/
inductive ET where
  | bool | ptr | slnil | mapnil | funcnil
  | iface
  | struct (fs : List (Nat × ET))   -- offsets of fields that count, one cell each
  | prim
  | array (n : Nat) (e : ET)

inductive CK where
  | intInt (k : IntKind) | intFloat | floatInt (k : IntKind) | strBytes | bytesStr | same | floatFloat
  deriving DecidableEq
inductive SK where
  | str | sl (sz : Nat) | arr (n : Nat)
inductive LK where
  | str | sl | arr (n : Nat) | map
inductive Ins (α : Type) where
  | mov (x : α)
  | pick (c a b : α)
  | alloc (ds : List D)
  | box (x : α)
  | build (zs : List D) (parts : List (Nat × Nat × α))
  | buildSlice (sz : Nat) (zs : List D) (len : Nat) (parts : List (Nat × α)) (asRow : Bool)
  | load (n : Option Nat) (x : α)
  | loadOf (n : Option Nat) (x b : α)
  | callA (f : FuncId)
  | store (n : Nat) (x v : α)
  | storeNe (n : Nat) (x v : α) (ys : List α)
  | nilCheck (x : α)
  | bin (op : BinOp) (x y : α)
  | farith (op : BinOp) (x y : α)
  | eql (t : ET) (neg : Bool) (x y : α)
  | un (op : UnOp) (x : α)
  | conv (c : CK) (x : α)
  | arrPtr (n : Nat) (x : α)
  | slice (k : SK) (x : α) (lo hi mx : Option α)
  | fieldAddr (off : Nat) (x : α)
  | field (off : Nat) (n : Option Nat) (x : α)
  | indexAddrA (len sz : Nat) (x i : α)
  | indexAddrS (sz : Nat) (x i : α)
  | indexA (len sz : Nat) (n : Option Nat) (x i : α)
  | indexS (x i : α)
  | extract (x : α) (i : Nat)
  | mkIface (t : TypeId) (x : α)
  | mkFunc (fn : Fn) (first cap : List α)
  | len (k : LK) (x : α)
  | len0 (k : LK) (x : α)
  | minmax (mx : Bool) (x y : α)
  | append (sz bytes : Nat) (str : Bool) (s x : α)
  | makeSlice (sz bytes : Nat) (zs : List D) (len cap : α)
  | call (f : α) (args : List α)
  | callNe (f : α) (args ys : List α)
  | qcall (f : α) (args : List α)
  | panic (x : α)
  | defer (f : α) (args : List α)
  | typeAssert (t : TypeId) (ok : Bool) (zs : D) (x : α)
  | makeMap
  | lookup (z : D) (ok : Bool) (m k : α)
  | mapUpdate (m k v : α)
  | delete (m k : α)
  | srange (x : α)
  | snext (x : α)

def Ins.map {α β : Type} (g : α → β) : Ins α → Ins β
  | .mov x => .mov (g x)
  | .pick c a b => .pick (g c) (g a) (g b)
  | .alloc ds => .alloc ds
  | .box x => .box (g x)
  | .build zs ps => .build zs (ps.map fun p => (p.1, p.2.1, g p.2.2))
  | .buildSlice sz zs n ps r => .buildSlice sz zs n (ps.map fun p => (p.1, g p.2)) r
  | .load n x => .load n (g x)
  | .loadOf n x b => .loadOf n (g x) (g b)
  | .callA f => .callA f
  | .store n x v => .store n (g x) (g v)
  | .storeNe n x v ys => .storeNe n (g x) (g v) (ys.map g)
  | .nilCheck x => .nilCheck (g x)
  | .bin op x y => .bin op (g x) (g y)
  | .farith op x y => .farith op (g x) (g y)
  | .eql t n x y => .eql t n (g x) (g y)
  | .un op x => .un op (g x)
  | .conv c x => .conv c (g x)
  | .arrPtr n x => .arrPtr n (g x)
  | .slice k x lo hi mx => .slice k (g x) (lo.map g) (hi.map g) (mx.map g)
  | .fieldAddr o x => .fieldAddr o (g x)
  | .field o n x => .field o n (g x)
  | .indexAddrA l s x i => .indexAddrA l s (g x) (g i)
  | .indexAddrS s x i => .indexAddrS s (g x) (g i)
  | .indexA l s n x i => .indexA l s n (g x) (g i)
  | .indexS x i => .indexS (g x) (g i)
  | .extract x i => .extract (g x) i
  | .mkIface t x => .mkIface t (g x)
  | .mkFunc fn a b => .mkFunc fn (a.map g) (b.map g)
  | .len k x => .len k (g x)
  | .len0 k x => .len0 k (g x)
  | .minmax m x y => .minmax m (g x) (g y)
  | .append sz b t s x => .append sz b t (g s) (g x)
  | .makeSlice sz b zs l c => .makeSlice sz b zs (g l) (g c)
  | .call f as => .call (g f) (as.map g)
  | .callNe f as ys => .callNe (g f) (as.map g) (ys.map g)
  | .qcall f as => .qcall (g f) (as.map g)
  | .panic x => .panic (g x)
  | .defer f as => .defer (g f) (as.map g)
  | .typeAssert t ok z x => .typeAssert t ok z (g x)
  | .makeMap => .makeMap
  | .lookup z ok m k => .lookup z ok (g m) (g k)
  | .mapUpdate m k v => .mapUpdate (g m) (g k) (g v)
  | .delete m k => .delete (g m) (g k)
  | .srange x => .srange (g x)
  | .snext x => .snext (g x)

/-! ### Numbers -/
def intEv (op : BinOp) (k : IntKind) (x y : Int) : Option D :=
  match op with
  | .add => some (.int k (k.wrap (x + y)))
  | .sub => some (.int k (k.wrap (x - y)))
  | .mul => some (.int k (k.wrap (x * y)))
  | .quo => if y = 0 then none else some (.int k (k.wrap (x.tdiv y)))
  | .rem => if y = 0 then none else some (.int k (x.tmod y))
  | .and => some (.int k (k.wrap (BitVec.ofInt k.bits x &&& BitVec.ofInt k.bits y).toNat))
  | .or => some (.int k (k.wrap (BitVec.ofInt k.bits x ||| BitVec.ofInt k.bits y).toNat))
  | .xor => some (.int k (k.wrap (BitVec.ofInt k.bits x ^^^ BitVec.ofInt k.bits y).toNat))
  | .andNot => some (.int k (k.wrap (BitVec.ofInt k.bits x &&& ~~~ BitVec.ofInt k.bits y).toNat))
  | .eql => some (.bool (x == y))
  | .neq => some (.bool (x != y))
  | .lss => some (.bool (decide (x < y)))
  | .leq => some (.bool (decide (x ≤ y)))
  | .gtr => some (.bool (decide (x > y)))
  | .geq => some (.bool (decide (x ≥ y)))
  | _ => none
def shEv (op : BinOp) (k : IntKind) (x y : Int) : Option D :=
  if y < 0 then none else
  match op with
  | .shl => some (.int k (k.wrap (x * 2 ^ (min y.toNat k.bits))))
  | .shr => some (.int k (x.fdiv (2 ^ (min y.toNat k.bits))))
  | _ => none
def strEv (op : BinOp) (a b : List UInt8) : Option D :=
  match op with
  | .add => if a.length + b.length ≤ 9223372036854775807 then some (.str (a ++ b)) else none
  | .eql => some (.bool (a == b))
  | .neq => some (.bool (!(a == b)))
  | .lss => some (.bool (Op.bytesLess a b))
  | .leq => some (.bool (Op.bytesLess a b || a == b))
  | .gtr => some (.bool (!(Op.bytesLess a b || a == b)))
  | .geq => some (.bool (!(Op.bytesLess a b)))
  | _ => none
def fltEv (op : BinOp) (k : FloatKind) (a b : Nat) : Option D :=
  match op with
  | .eql => some (.bool (k.format.order a b == some .eq))
  | .neq => some (.bool (k.format.order a b != some .eq))
  | .lss => some (.bool (k.format.order a b == some .lt))
  | .leq => some (.bool (k.format.order a b == some .lt || k.format.order a b == some .eq))
  | .gtr => some (.bool (k.format.order a b == some .gt))
  | .geq => some (.bool (k.format.order a b == some .gt || k.format.order a b == some .eq))
  | _ => none
def binEv (op : BinOp) : D → D → Option D
  | .int k a, .int k' b => match op with
    | .shl => shEv .shl k a b
    | .shr => shEv .shr k a b
    | _ => if k = k' then intEv op k a b else none
  | .str a, .str b => strEv op a b
  | .float k a, .float k' b => if k = k' then fltEv op k a b else none
  | _, _ => none
def unEv (op : UnOp) : D → Option D
  | .int k n => match op with
    | .neg => some (.int k (k.wrap (0 - n)))
    | .xor => some (.int k (k.wrap (BitVec.ofInt k.bits (if k.signed then -1 else k.max) ^^^ BitVec.ofInt k.bits n).toNat))
    | _ => none
  | .bool b => match op with
    | .not => some (.bool (!b))
    | _ => none
  | .float k b => match op with
    | .neg => some (.float k (Op.negFloat k b))
    | _ => none
  | _ => none

/-! ### Cells -/
def cellsD : D → List D
  | .agg ds => ds
  | d => [d]
/-- May a datum stand in one cell? -/
def cellOk : D → Bool
  | .undef | .agg _ | .tuple _ => false
  | _ => true
def setAt (cs : List D) (off : Nat) : List D → List D
  | [] => cs
  | d :: ds => setAt (cs.set off d) (off + 1) ds
def partD (ds : List D) (off : Nat) : Option Nat → Option D
  | none => ds[off]?
  | some n => if off + n ≤ ds.length then some (.agg ((ds.drop off).take n)) else none
def buildD (zs : List D) : List (Nat × Nat × D) → Option (List D)
  | [] => some zs
  | (off, sz, d) :: ps => if (cellsD d).length = sz ∧ off + sz ≤ zs.length ∧ (cellsD d).all cellOk = true then buildD (setAt zs off (cellsD d)) ps else none
def rowsOf (sz : Nat) (zs : List D) (n : Nat) : List (List D) := List.replicate n zs
def buildRows (sz : Nat) : List (List D) → List (Nat × D) → Option (List (List D))
  | xs, [] => some xs
  | xs, (i, d) :: ps => if (cellsD d).length = sz ∧ i < xs.length ∧ (cellsD d).all cellOk = true then buildRows sz (xs.set i (cellsD d)) ps else none
/-- Elements of a slice that is laid: a nil slice within them is as one of no length. -/
def unnil : D → D
  | .nilsl => .sl []
  | d => d
def isNil : D → Bool
  | .nilsl => true
  | _ => false
def normX (zs : List D) (xs : List (List D)) : List (List D) := bif zs.any isNil then xs.map (List.map unnil) else xs
def byteOf : List D → UInt8
  | [.int _ n] => UInt8.ofNat n.toNat
  | _ => 0
def isByte : List D → Bool
  | [.int .u8 _] => true
  | _ => false
def encB (s : List UInt8) : List (List D) := s.map fun b => [.int .u8 (b.toNat : Int)]

/-- The elements of a slice, if it can be told. -/
def elemsOf (h : AHeap) : D → Option (List (List D))
  | .nilsl => some []
  | .sl xs => some xs
  | .row r ver off len => match h.f r with
    | some (.row sz ver' xs fz) => if ver = ver' ∧ off + len ≤ xs.length then some ((xs.drop off).take len) else none
    | _ => none
  | .csl id off len => match h.f id with
    | some (.cells ds) => if off + len ≤ ds.length then some (((ds.drop off).take len).map fun d => [d]) else none
    | _ => none
  | _ => none
/-- What can be handed to others: plain data. -/
def plain (h : AHeap) : D → D
  | .nilsl => .sl []
  | .row r ver off len => match h.f r with
    | some (.row sz ver' xs fz) => if ver = ver' ∧ off + len ≤ xs.length then .sl ((xs.drop off).take len) else .undef
    | _ => .undef
  | .agg ds => .agg (ds.map fun d => match d with
      | .nilsl => .sl []
      | .row r ver off len => match h.f r with
        | some (.row sz ver' xs fz) => if ver = ver' ∧ off + len ≤ xs.length then .sl ((xs.drop off).take len) else .undef
        | _ => .undef
      | d => d)
  | d => d
/-- The rows that are handed to others stop changing. -/
def frzId (h : AHeap) (r : Nat) : AHeap :=
  match h.f r with
  | some (.row sz ver xs _) => h.set r (.row sz ver xs true)
  | _ => h
def frz (h : AHeap) : D → AHeap
  | .row r _ _ _ => frzId h r
  | .agg ds => ds.foldl (fun h d => match d with | .row r _ _ _ => frzId h r | _ => h) h
  | _ => h
def frzL (h : AHeap) (ds : List D) : AHeap := ds.foldl frz h

def loadD (h : AHeap) (n : Option Nat) : D → Option D
  | .ptr id ver off => match h.f id with
    | some (.cells ds) => if ver = 1 then partD ds off n else none
    | _ => none
  | .eptr cells off => partD cells off n
  | .rptr r ver i f => match h.f r with
    | some (.row sz ver' xs fz) => if ver = ver' then (match xs[i]? with | some x => partD x f n | none => none) else none
    | _ => none
  | _ => none
def storeD (h : AHeap) (n : Nat) (a v : D) : Option AHeap :=
  if (cellsD v).length = n ∧ (cellsD v).all cellOk = true then
    match a with
    | .ptr id ver off => match h.f id with
      | some (.cells ds) => if ver = 1 ∧ off + n ≤ ds.length then some (h.set id (.cells (setAt ds off (cellsD v)))) else none
      | _ => none
    | .rptr r ver i f => match h.f r with
      | some (.row sz ver' xs false) => if ver = ver' then (match xs[i]? with | some x => if f + n ≤ x.length then some (h.set r (.row sz ver' (xs.set i (setAt x f (cellsD v))) false)) else none | none => none) else none
      | _ => none
    | _ => none
  else none

/-- Surely another object. -/
def objNe (x y : D) : Bool :=
  match x, y with
  | .ptr i _ _, .ptr j _ _ | .ptr i _ _, .rptr j _ _ _ | .rptr i _ _ _, .ptr j _ _ | .rptr i _ _ _, .rptr j _ _ _ => !(i == j)
  | _, .eptr .. => true
  | _, _ => false

def objSame (x y : D) : Bool :=
  match x, y with
  | .ptr i _ _, .ptr j _ _ | .ptr i _ _, .rptr j _ _ _ | .rptr i _ _ _, .ptr j _ _ | .rptr i _ _ _, .rptr j _ _ _ => i == j
  | _, _ => false

def intOfD : D → Option Int
  | .int _ n => some n
  | _ => none
/-- Bounds of a slice expression, up to n. -/
def bounds (n : Nat) (lo hi : Option D) : Option (Nat × Nat) :=
  match (match lo with | none => some 0 | some d => intOfD d), (match hi with | none => some (n : Int) | some d => intOfD d) with
  | some l, some u => if 0 ≤ l ∧ l ≤ u ∧ u ≤ n then some (l.toNat, u.toNat) else none
  | _, _ => none
def sliceEv (k : SK) (x : D) (lo hi mx : Option D) : Option D :=
  match mx with
  | some _ => none
  | none =>
    match k, x with
    | .str, .str s => (bounds s.length lo hi).map fun b => .str ((s.drop b.1).take (b.2 - b.1))
    | .sl sz, .sl xs => if ∀ y ∈ xs, y.length = sz then (bounds xs.length lo hi).map fun b => .sl ((xs.drop b.1).take (b.2 - b.1)) else none
    | .arr n, .ptr id ver off => if ver = 1 ∧ n ≤ 9223372036854775807 then (bounds n lo hi).map fun b => .csl id (off + b.1) (b.2 - b.1) else none
    | _, _ => none
def eqInts : List D → List D → Option Bool
  | [], [] => some true
  | .int k a :: xs, .int k' b :: ys => if k = k' then (if a == b then eqInts xs ys else some false) else none
  | _, _ => none
def eqEv : ET → D → D → Option Bool
  | .bool, .bool a, .bool b => some (a == b)
  | .ptr, .nilptr, .nilptr => some true
  | .ptr, .ptr .., .nilptr => some false
  | .ptr, .nilptr, .ptr .. => some false
  | .slnil, .nilsl, .nilsl => some true
  | .funcnil, .func .., .nilfunc => some false
  | .funcnil, .nilfunc, .nilfunc => some true
  | .iface, .nilif, .nilif => some true
  | .iface, .iface .., .nilif => some false
  | .iface, .nilif, .iface .. => some false
  | .array n .prim, .agg a, .agg b => if a.length = n ∧ b.length = n then eqInts a b else none
  | _, _, _ => none

/-- Instructions that only reckon. -/
def pureEv : Ins D → Option D
  | .mov x => some x
  | .build zs ps => (buildD zs ps).map .agg
  | .nilCheck x => match x with
    | .ptr .. | .eptr .. | .rptr .. | .func (.func _) _ _ => some x
    | _ => none
  | .bin op x y => binEv op x y
  | .eql t neg x y => (eqEv t x y).map fun b => .bool (if neg then !b else b)
  | .un op x => unEv op x
  | .conv c x => match c, x with
    | .intInt k, .int _ n => some (.int k (k.wrap n))
    | .intFloat, .int _ n => some (.float .f64 (FloatKind.f64.nearest n))
    | .same, .str s => some (.str s)
    | .floatInt k, .float .f64 b => (floatToIntVal .f64 b k).map (.int k)
    | .floatFloat, .float .f64 b => some (.float .f64 b)
    | _, _ => none
  | .arrPtr n x => match x with
    | .csl id off len => if 0 < n ∧ n ≤ len then some (.ptr id 1 off) else none
    | _ => none
  | .slice k x lo hi mx => sliceEv k x lo hi mx
  | .fieldAddr o x => match x with
    | .ptr id ver off => some (.ptr id ver (off + o))
    | .eptr cs off => some (.eptr cs (off + o))
    | .rptr r ver i f => some (.rptr r ver i (f + o))
    | _ => none
  | .field o n x => match x with
    | .agg ds => partD ds o n
    | _ => none
  | .indexAddrA len sz x i => match x, i with
    | .ptr id ver off, .int _ i => if 0 ≤ i ∧ i < len then some (.ptr id ver (off + i.toNat * sz)) else none
    | .eptr cs off, .int _ i => if 0 ≤ i ∧ i < len then some (.eptr cs (off + i.toNat * sz)) else none
    | .rptr r ver j f, .int _ i => if 0 ≤ i ∧ i < len then some (.rptr r ver j (f + i.toNat * sz)) else none
    | _, _ => none
  | .indexAddrS sz x i => match x, i with
    | .sl xs, .int _ i => if 0 ≤ i then (match xs[i.toNat]? with | some x => if x.length = sz then some (.eptr x 0) else none | none => none) else none
    | .csl id off len, .int _ i => if 0 ≤ i ∧ i < len ∧ sz = 1 then some (.ptr id 1 (off + i.toNat)) else none
    | _, _ => none
  | .indexA len sz n x i => match x, i with
    | .agg ds, .int _ i => if 0 ≤ i ∧ i < len then partD ds (i.toNat * sz) n else none
    | _, _ => none
  | .indexS x i => match x, i with
    | .str s, .int _ i => if 0 ≤ i then (match s[i.toNat]? with | some b => some (.int .u8 (b.toNat : Int)) | none => none) else none
    | _, _ => none
  | .extract x i => match x with
    | .tuple ds => ds[i]?
    | _ => none
  | .mkIface t x => some (.iface t x)
  | .mkFunc fn a b => some (.func fn a b)
  | .minmax mx x y => match x, y with
    | .int k a, .int _ b => some (.int k (if mx then (if a < b then b else a) else (if b < a then b else a)))
    | _, _ => none
  | _ => none

/-- Instructions that only look at the heap. -/
def readEv (h : AHeap) : Ins D → Option D
  | .load n x => loadD h n x
  | .conv c x => match c with
    | .bytesStr => match elemsOf h x with
      | some xs => if xs.all isByte = true then some (.str (xs.map byteOf)) else none
      | none => none
    | _ => none
  | .slice k x lo hi mx => match k, x, mx with
    | .sl sz, .row r ver off len, none => match h.f r with
      | some (.row sz' ver' xs fz) => if sz' = sz ∧ ver' = ver then (bounds len lo hi).map fun b => .row r ver (off + b.1) (b.2 - b.1) else none
      | _ => none
    | _, _, _ => none
  | .indexAddrS sz x i => match x, i with
    | .row r ver off len, .int _ i => match h.f r with
      | some (.row sz' ver' xs fz) => if sz' = sz ∧ ver' = ver ∧ 0 ≤ i ∧ i < len then some (.rptr r ver (off + i.toNat) 0) else none
      | _ => none
    | _, _ => none
  | _ => none

inductive AOut where
  | ret (d : D)
  | panic (d : D)

inductive OutRel (κ : Kap) (w : World) : AOut → Ending → Prop
  | ret {d : D} {v : Value} (h : Rep κ w v d) : OutRel κ w (.ret d) (.returned v)
  | panic {d : D} {v : Value} (h : Rep κ w v d) : OutRel κ w (.panic d) (.panicked [{ v, recovered := false }])

inductive RepL (κ : Kap) (w : World) : List Value → List D → Prop
  | nil : RepL κ w [] []
  | cons {v : Value} {d : D} {vs : List Value} {ds : List D} (h : Rep κ w v d) (t : RepL κ w vs ds) : RepL κ w (v :: vs) (d :: ds)

def callable (P : Program) (f : FuncId) : Bool :=
  match P.funcs[f]? with
  | some fn => !(fn.name == "runtime.NumGoroutine") && fn.body.isSome
  | none => false

/-- **A call's contract.** Whatever world stands to the abstract heap: the call ends, and what it ends in meets R. -/
def ACalls [Globs] (P : Program) (f : FuncId) (args : List D) (h : AHeap) (R : AOut → AHeap → Prop) : Prop :=
  callable P f = true ∧ ∀ (κ : Kap) (w : World) (vs : Array Value), Inv κ h w → RepL κ w vs.toList args →
    Calls P f vs w fun e w' => ∃ o h' κ', R o h' ∧ OutRel κ' w' o e ∧ Inv κ' h' w' ∧ Ev κ h w κ' h' w'

/-- A call of plain data that answers plain data. -/
def PCall [Globs] (P : Program) (f : FuncId) (args : List D) (d : D) : Prop := ACalls P f args .emp fun o _ => o = .ret d

def AOut.to (K : D → AHeap → Prop) (E : D → AHeap → Prop) : AOut → AHeap → Prop
  | .ret d, h => K d h
  | .panic d, h => E d h

/-- What is known of the functions that are called: q: of a call of plain data, its answer; c: of any call, what it asks. -/
structure Tab where
  q : FuncId → List D → Option D
  a : FuncId → Option (List D)
  c : FuncId → List D → AHeap → (D → AHeap → Prop) → (D → AHeap → Prop) → Prop
  mono : ∀ f args h (K E K' E' : D → AHeap → Prop), (∀ d h, K d h → K' d h) → (∀ d h, E d h → E' d h) → c f args h K E → c f args h K' E'
/-- A call that the model answers at once. -/
def XCall (P : Program) (f : FuncId) (args : List D) (d : D) : Prop := ∀ (κ : Kap) (w : World) (vs : Array Value), RepL κ w vs.toList args → ∃ v, (callFunc f vs).run P w = .ok (.value v) w ∧ Rep κ w v d
structure Tab.ok [Globs] (P : Program) (T : Tab) : Prop where
  q : ∀ f args d, T.q f args = some d → PCall P f args d ∨ XCall P f args d
  a : ∀ f ds h, T.a f = some ds → ACalls P f [] h fun o h' => ∃ id, h.f id = none ∧ o = .ret (.ptr id 1 0) ∧ h' = h.set id (.cells ds)
  c : ∀ f args h K E, T.c f args h K E → ACalls P f args h (AOut.to K E)

def isArithF : BinOp → Bool
  | .add | .sub | .mul | .quo => true
  | _ => false
/-- What is appended. -/
def srcOf (h : AHeap) (str : Bool) (x : D) : Option (List (List D)) :=
  match str, x with
  | true, .str b => some (encB b)
  | true, _ => none
  | false, x => elemsOf h x

/-- The object that a pointer leads to is as it was. -/
def keptAt (h h' : AHeap) : D → Prop
  | .ptr id _ _ | .rptr id _ _ _ => h'.f id = h.f id
  | _ => False
/-- What holds no reference. -/
def scalar : D → Bool
  | .bool _ | .int .. | .float .. | .str _ | .undef => true
  | _ => false
/-- The heap behind a call of plain data: when it answers what holds no reference, what was handed to it was lent. -/
def lentH (d : D) (h h' : AHeap) : AHeap := bif scalar d then h else h'
/-- What an instruction asks. -/
def vcI (T : Tab) (i : Ins D) (h : AHeap) (K : D → AHeap → Prop) (E : D → AHeap → Prop) : Prop :=
  match i with
  | .pick c a b => match c with
    | .bool c => (c = true → K a h) ∧ (c = false → K b h)
    | _ => False
  | .alloc ds => ∀ id, h.f id = none → K (.ptr id 1 0) (h.set id (.cells ds))
  | .box x => (cellsD x).all cellOk = true ∧ ∀ id, h.f id = none → K (.ptr id 1 0) (h.set id (.cells (cellsD x)))
  | .buildSlice sz zs len ps asRow => ∃ xs, buildRows sz (rowsOf sz zs len) ps = some xs ∧
      (match asRow with
       | true => ∀ id, h.f id = none → K (.row id (len + 2) 0 len) (h.set id (.row sz (len + 2) xs false))
       | false => K (.sl (normX zs xs)) h)
  | .load n x => ∃ d, loadD h n x = some d ∧ K d h
  | .loadOf n x b => ∃ d, (if objSame x b = true then loadD h n x else none) = some d ∧ K d h
  | .callA k => ∃ ds, T.a k = some ds ∧ ∀ id, h.f id = none → K (.ptr id 1 0) (h.set id (.cells ds))
  | .store n x v => ∃ h', storeD h n x v = some h' ∧ K .undef h'
  | .storeNe n x v ys => ys.all (objNe x) = true ∧ ∃ h', storeD h n x v = some h' ∧ K .undef h'
  | .conv c x => match c with
    | .bytesStr => ∃ d, readEv h (.conv .bytesStr x) = some d ∧ K d h
    | .strBytes => match x with
      | .str s => K (.sl (encB s)) h
      | _ => False
    | _ => ∃ d, pureEv i = some d ∧ K d h
  | .slice k x lo hi mx => match x with
    | .row .. => ∃ d, readEv h (.slice k x lo hi mx) = some d ∧ K d h
    | _ => ∃ d, pureEv (.slice k x lo hi mx) = some d ∧ K d h
  | .indexAddrS sz x i => match x with
    | .row .. => ∃ d, readEv h (.indexAddrS sz x i) = some d ∧ K d h
    | _ => ∃ d, pureEv (.indexAddrS sz x i) = some d ∧ K d h
  | .len k x => match k, x with
    | .str, .str s => s.length ≤ 9223372036854775807 → K (.int .i64 (s.length : Int)) h
    | .arr n, _ => K (.int .i64 (n : Int)) h
    | .sl, .nilsl => K (.int .i64 0) h
    | .sl, .sl xs => xs.length ≤ 9223372036854775807 → K (.int .i64 (xs.length : Int)) h
    | .sl, .row r ver off len => len ≤ 9223372036854775807 → K (.int .i64 (len : Int)) h
    | .sl, .csl id off len => len ≤ 9223372036854775807 → K (.int .i64 (len : Int)) h
    | _, _ => False
  | .append sz bytes str s x => ∃ ys, srcOf h str x = some ys ∧ (∀ y ∈ ys, y.length = sz ∧ y.all cellOk = true) ∧ 0 < bytes ∧
      (match s with
       | .nilsl => (ys = [] → K .nilsl h) ∧ ys.length * bytes ≤ 140737488355328 ∧ (ys ≠ [] → ∀ id, h.f id = none → K (.row id (ys.length + 2) 0 ys.length) (h.set id (.row sz (ys.length + 2) ys false)))
       | .row r ver off len => match h.f r with
         | some (.row sz' ver' xs false) => ver = ver' ∧ sz' = sz ∧ off = 0 ∧ len = xs.length ∧ (xs.length + ys.length) * bytes ≤ 140737488355328 ∧
             K (.row r (ver + ys.length) 0 (len + ys.length)) (h.set r (.row sz (ver + ys.length) (xs ++ ys) false))
         | _ => False
       | _ => False)
  | .makeSlice sz bytes zs l c => match l, c with
    | .int _ l, .int _ c => 0 ≤ l ∧ l = c ∧ l * bytes ≤ 140737488355328 ∧ zs.length = sz ∧ 0 < sz ∧ ∀ id, h.f id = none → K (.row id (l.toNat + 2) 0 l.toNat) (h.set id (.row sz (l.toNat + 2) (rowsOf sz zs l.toNat) false))
    | _, _ => False
  | .call f args => match f with
    | .func (.func k) first cap => T.c k ((first ++ args ++ cap).map (plain h)) (frzL h (first ++ args ++ cap)) K E
    | _ => False
  | .callNe f args ys => match f with
    | .func (.func k) first cap => T.c k ((first ++ args ++ cap).map (plain h)) (frzL h (first ++ args ++ cap)) (fun d h' => (∀ y ∈ ys, keptAt h h' y) ∧ K d h') E
    | _ => False
  | .qcall f args => match f with
    | .func (.func k) first cap => ∃ d, T.q k ((first ++ args ++ cap).map (plain h)) = some d ∧ K d (lentH d h (frzL h (first ++ args ++ cap)))
    | _ => False
  | .panic x => match x with
    | .iface t d => E (.iface t d) h
    | _ => False
  | .farith op x y => match x, y with
    | .float .f64 a, .float .f64 b => isArithF op = true ∧ (match floatBits op .f64 a b with
      | some r => K (.float .f64 r) h
      | none => ∀ r, FloatKind.f64.format.order r r = none → K (.float .f64 r) h)
    | _, _ => False
  | .srange x => match x with
    | .str s => ∀ id, h.f id = none → K (.iter id) (h.set id (.siter s 0))
    | _ => False
  | .snext x => match x with
    | .iter id => match h.f id with
      | some (.siter s pos) => (pos < s.length → K (.tuple [.bool true, .int .i64 (pos : Int), .int .i32 ((Utf8.decode ⟨s.toArray⟩ pos).1 : Int)]) (h.set id (.siter s (pos + (Utf8.decode ⟨s.toArray⟩ pos).2)))) ∧ (s.length ≤ pos → K (.tuple [.bool false]) h)
      | _ => False
    | _ => False
  | .len0 .. | .typeAssert .. | .makeMap | .lookup .. | .mapUpdate .. | .delete .. | .defer .. => False
  | i => ∃ d, pureEv i = some d ∧ K d h
end Go.Proofs.YthpgepillaeldaaDoor.Zz
