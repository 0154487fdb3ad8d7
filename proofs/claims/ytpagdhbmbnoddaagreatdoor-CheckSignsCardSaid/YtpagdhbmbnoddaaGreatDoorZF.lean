/- Frames; the compact form of code; what each instruction asks. -/
import Derived.Laws.FloatArith
import Derived.RangeFuncLeaves
import Derived.OrdersIn
import Derived.RangeFuncIn
import Derived.Test.YtpagdhbmbnoddaaGreatDoorZB
import Derived.Laws.Entries
import Derived.Laws.Cells
set_option linter.unnecessarySimpa false
set_option linter.unusedVariables false
set_option linter.unusedSimpArgs false
namespace Go.Proofs.YtpagdhbmbnoddaaGreatDoor.Zz
structure DDef where
 fn : Fn
 cap : List D
 args : List D
structure Fr where
 env : Nat → D
 defs : List DDef
def Fr.put (σ : Fr) (d : Option Nat) (x : D) : Fr :=
 match d with
 | some t => { σ with env := fun i => if i = t then x else σ.env i }
 | none => σ
def Fr.forget (σ : Fr) : Fr := { env := fun _ => .undef, defs := σ.defs }
@[simp] theorem Fr.put_some (σ : Fr) (t : Nat) (x : D) (i : Nat) : (σ.put (some t) x).env i = if i = t then x else σ.env i := rfl
@[simp] theorem Fr.put_none (σ : Fr) (x : D) : σ.put none x = σ := rfl
@[simp] theorem Fr.put_defs (σ : Fr) (d : Option Nat) (x : D) : (σ.put d x).defs = σ.defs := by cases d <;> rfl
@[simp] theorem Fr.forget_defs (σ : Fr) : σ.forget.defs = σ.defs := rfl
@[simp] theorem Fr.forget_put (σ : Fr) (d : Option Nat) (x : D) : (σ.put d x).forget = σ.forget := by simp [Fr.forget]
theorem Fr.ext {σ τ : Fr} (h1 : ∀ i, σ.env i = τ.env i) (h2 : σ.defs = τ.defs) : σ = τ := by
 cases σ; cases τ
 simp only [Fr.mk.injEq]
 exact ⟨funext h1, h2⟩
def lookupD : List (Nat × D) → Nat → D
 | [], _ => .undef
 | (j, d) :: l, i => if i = j then d else lookupD l i
def mkFr (l : List (Nat × D)) : Fr := { env := lookupD l, defs := [] }
def mkFrD (l : List (Nat × D)) (ds : List DDef) : Fr := { env := lookupD l, defs := ds }
inductive Opd where
 | t (n : Nat)
 | c (d : D)
 | f (k : Nat)
def Fr.ev (σ : Fr) : Opd → D
 | .t n => σ.env n
 | .c d => d
 | .f k => .func (.func k) [] []
inductive ET where
 | bool | ptr | slnil | mapnil | funcnil
 | iface
 | struct (fs : List (Nat × ET))   -- offsets of fields that count, one cell each
 | prim
 | array (n : Nat) (e : ET)
inductive CK where
 | intInt (k : IntKind) | intFloat | floatInt (k : IntKind) | strBytes | bytesStr | same | floatFloat
 deriving DecidableEq
inductive SK where
 | str | sl (sz : Nat) | arr (n : Nat)
inductive LK where
 | str | sl | arr (n : Nat) | map
inductive Ins (α : Type) where
 | mov (x : α)
 | pick (c a b : α)
 | alloc (ds : List D)
 | box (x : α)
 | build (zs : List D) (parts : List (Nat × Nat × α))
 | buildSlice (sz : Nat) (zs : List D) (len : Nat) (parts : List (Nat × α)) (asRow : Bool)
 | load (n : Option Nat) (x : α)
 | loadOf (n : Option Nat) (x b : α)
 | callA (f : FuncId)
 | store (n : Nat) (x v : α)
 | storeNe (n : Nat) (x v : α) (ys : List α)
 | nilCheck (x : α)
 | bin (op : BinOp) (x y : α)
 | farith (op : BinOp) (x y : α)
 | eql (t : ET) (neg : Bool) (x y : α)
 | un (op : UnOp) (x : α)
 | conv (c : CK) (x : α)
 | arrPtr (n : Nat) (x : α)
 | slice (k : SK) (x : α) (lo hi mx : Option α)
 | fieldAddr (off : Nat) (x : α)
 | field (off : Nat) (n : Option Nat) (x : α)
 | indexAddrA (len sz : Nat) (x i : α)
 | indexAddrS (sz : Nat) (x i : α)
 | indexA (len sz : Nat) (n : Option Nat) (x i : α)
 | indexS (x i : α)
 | extract (x : α) (i : Nat)
 | mkIface (t : TypeId) (x : α)
 | mkFunc (fn : Fn) (first cap : List α)
 | len (k : LK) (x : α)
 | len0 (k : LK) (x : α)
 | minmax (mx : Bool) (x y : α)
 | append (sz bytes : Nat) (str : Bool) (s x : α)
 | makeSlice (sz bytes : Nat) (zs : List D) (len cap : α)
 | call (f : α) (args : List α)
 | callR (f : α) (args : List α)
 | callNe (f : α) (args ys : List α)
 | appendA (sz bytes : Nat) (str : Bool) (s x : α) (ys : List α)
 | storeB (n : Nat) (x v : α)
 | qcall (f : α) (args : List α)
 | panic (x : α)
 | defer (f : α) (args : List α)
 | typeAssert (t : TypeId) (ok : Bool) (zs : D) (x : α)
 | makeMap
 | lookup (z : D) (ok : Bool) (m k : α)
 | mapUpdate (m k v : α)
 | delete (m k : α)
 | isNil (neg : Bool) (x : α)
 | srange (x : α)
 | snext (x : α)
def Ins.map {α β : Type} (g : α → β) : Ins α → Ins β
 | .mov x => .mov (g x)
 | .pick c a b => .pick (g c) (g a) (g b)
 | .alloc ds => .alloc ds
 | .box x => .box (g x)
 | .build zs ps => .build zs (ps.map fun p => (p.1, p.2.1, g p.2.2))
 | .buildSlice sz zs n ps r => .buildSlice sz zs n (ps.map fun p => (p.1, g p.2)) r
 | .load n x => .load n (g x)
 | .loadOf n x b => .loadOf n (g x) (g b)
 | .callA f => .callA f
 | .store n x v => .store n (g x) (g v)
 | .storeNe n x v ys => .storeNe n (g x) (g v) (ys.map g)
 | .nilCheck x => .nilCheck (g x)
 | .bin op x y => .bin op (g x) (g y)
 | .farith op x y => .farith op (g x) (g y)
 | .eql t n x y => .eql t n (g x) (g y)
 | .un op x => .un op (g x)
 | .conv c x => .conv c (g x)
 | .arrPtr n x => .arrPtr n (g x)
 | .slice k x lo hi mx => .slice k (g x) (lo.map g) (hi.map g) (mx.map g)
 | .fieldAddr o x => .fieldAddr o (g x)
 | .field o n x => .field o n (g x)
 | .indexAddrA l s x i => .indexAddrA l s (g x) (g i)
 | .indexAddrS s x i => .indexAddrS s (g x) (g i)
 | .indexA l s n x i => .indexA l s n (g x) (g i)
 | .indexS x i => .indexS (g x) (g i)
 | .extract x i => .extract (g x) i
 | .mkIface t x => .mkIface t (g x)
 | .mkFunc fn a b => .mkFunc fn (a.map g) (b.map g)
 | .len k x => .len k (g x)
 | .len0 k x => .len0 k (g x)
 | .minmax m x y => .minmax m (g x) (g y)
 | .append sz b t s x => .append sz b t (g s) (g x)
 | .makeSlice sz b zs l c => .makeSlice sz b zs (g l) (g c)
 | .call f as => .call (g f) (as.map g)
 | .callR f as => .callR (g f) (as.map g)
 | .callNe f as ys => .callNe (g f) (as.map g) (ys.map g)
 | .appendA sz b t s x ys => .appendA sz b t (g s) (g x) (ys.map g)
 | .storeB n x v => .storeB n (g x) (g v)
 | .qcall f as => .qcall (g f) (as.map g)
 | .panic x => .panic (g x)
 | .defer f as => .defer (g f) (as.map g)
 | .typeAssert t ok z x => .typeAssert t ok z (g x)
 | .makeMap => .makeMap
 | .lookup z ok m k => .lookup z ok (g m) (g k)
 | .mapUpdate m k v => .mapUpdate (g m) (g k) (g v)
 | .delete m k => .delete (g m) (g k)
 | .isNil n x => .isNil n (g x)
 | .srange x => .srange (g x)
 | .snext x => .snext (g x)
def intEv (op : BinOp) (k : IntKind) (x y : Int) : Option D :=
 match op with
 | .add => some (.int k (k.wrap (x + y)))
 | .sub => some (.int k (k.wrap (x - y)))
 | .mul => some (.int k (k.wrap (x * y)))
 | .quo => if y = 0 then none else some (.int k (k.wrap (x.tdiv y)))
 | .rem => if y = 0 then none else some (.int k (x.tmod y))
 | .and => some (.int k (k.wrap (BitVec.ofInt k.bits x &&& BitVec.ofInt k.bits y).toNat))
 | .or => some (.int k (k.wrap (BitVec.ofInt k.bits x ||| BitVec.ofInt k.bits y).toNat))
 | .xor => some (.int k (k.wrap (BitVec.ofInt k.bits x ^^^ BitVec.ofInt k.bits y).toNat))
 | .andNot => some (.int k (k.wrap (BitVec.ofInt k.bits x &&& ~~~ BitVec.ofInt k.bits y).toNat))
 | .eql => some (.bool (x == y))
 | .neq => some (.bool (x != y))
 | .lss => some (.bool (decide (x < y)))
 | .leq => some (.bool (decide (x ≤ y)))
 | .gtr => some (.bool (decide (x > y)))
 | .geq => some (.bool (decide (x ≥ y)))
 | _ => none
def shEv (op : BinOp) (k : IntKind) (x y : Int) : Option D :=
 if y < 0 then none else
 match op with
 | .shl => some (.int k (k.wrap (x * 2 ^ (min y.toNat k.bits))))
 | .shr => some (.int k (x.fdiv (2 ^ (min y.toNat k.bits))))
 | _ => none
def strEv (op : BinOp) (a b : List UInt8) : Option D :=
 match op with
 | .add => if a.length + b.length ≤ 9223372036854775807 then some (.str (a ++ b)) else none
 | .eql => some (.bool (a == b))
 | .neq => some (.bool (!(a == b)))
 | .lss => some (.bool (Op.bytesLess a b))
 | .leq => some (.bool (Op.bytesLess a b || a == b))
 | .gtr => some (.bool (!(Op.bytesLess a b || a == b)))
 | .geq => some (.bool (!(Op.bytesLess a b)))
 | _ => none
def fltEv (op : BinOp) (k : FloatKind) (a b : Nat) : Option D :=
 match op with
 | .eql => some (.bool (k.format.order a b == some .eq))
 | .neq => some (.bool (k.format.order a b != some .eq))
 | .lss => some (.bool (k.format.order a b == some .lt))
 | .leq => some (.bool (k.format.order a b == some .lt || k.format.order a b == some .eq))
 | .gtr => some (.bool (k.format.order a b == some .gt))
 | .geq => some (.bool (k.format.order a b == some .gt || k.format.order a b == some .eq))
 | _ => none
def binEv (op : BinOp) : D → D → Option D
 | .int k a, .int k' b => match op with
  | .shl => shEv .shl k a b
  | .shr => shEv .shr k a b
  | _ => if k = k' then intEv op k a b else none
 | .str a, .str b => strEv op a b
 | .float k a, .float k' b => if k = k' then fltEv op k a b else none
 | _, _ => none
def unEv (op : UnOp) : D → Option D
 | .int k n => match op with
  | .neg => some (.int k (k.wrap (0 - n)))
  | .xor => some (.int k (k.wrap (BitVec.ofInt k.bits (if k.signed then -1 else k.max) ^^^ BitVec.ofInt k.bits n).toNat))
  | _ => none
 | .bool b => match op with
  | .not => some (.bool (!b))
  | _ => none
 | .float k b => match op with
  | .neg => some (.float k (Op.negFloat k b))
  | _ => none
 | _ => none
def cellsD : D → List D
 | .agg ds => ds
 | d => [d]
def cellOk : D → Bool
 | .undef | .agg _ | .tuple _ => false
 | _ => true
def setAt (cs : List D) (off : Nat) : List D → List D
 | [] => cs
 | d :: ds => setAt (cs.set off d) (off + 1) ds
def partD (ds : List D) (off : Nat) : Option Nat → Option D
 | none => ds[off]?
 | some n => if off + n ≤ ds.length then some (.agg ((ds.drop off).take n)) else none
def buildD (zs : List D) : List (Nat × Nat × D) → Option (List D)
 | [] => some zs
 | (off, sz, d) :: ps => if (cellsD d).length = sz ∧ off + sz ≤ zs.length ∧ (cellsD d).all cellOk = true then buildD (setAt zs off (cellsD d)) ps else none
def rowsOf (sz : Nat) (zs : List D) (n : Nat) : List (List D) := List.replicate n zs
def buildRows (sz : Nat) : List (List D) → List (Nat × D) → Option (List (List D))
 | xs, [] => some xs
 | xs, (i, d) :: ps => if (cellsD d).length = sz ∧ i < xs.length ∧ (cellsD d).all cellOk = true then buildRows sz (xs.set i (cellsD d)) ps else none
def unnil : D → D
 | .nilsl => .sl []
 | d => d
def isNil : D → Bool
 | .nilsl => true
 | _ => false
def normX (zs : List D) (xs : List (List D)) : List (List D) := bif zs.any isNil then xs.map (List.map unnil) else xs
def byteOf : List D → UInt8
 | [.int _ n] => UInt8.ofNat n.toNat
 | _ => 0
def isByte : List D → Bool
 | [.int .u8 _] => true
 | _ => false
def encB (s : List UInt8) : List (List D) := s.map fun b => [.int .u8 (b.toNat : Int)]
def elemsOf (h : AHeap) : D → Option (List (List D))
 | .nilsl => some []
 | .sl xs => some xs
 | .row r ver off len => match h.f r with
  | some (.row sz ver' xs fz) => if ver = ver' ∧ off + len ≤ xs.length then some ((xs.drop off).take len) else none
  | _ => none
 | .csl id off len => match h.f id with
  | some (.cells ds) => if off + len ≤ ds.length then some (((ds.drop off).take len).map fun d => [d]) else none
  | _ => none
 | _ => none
def plain (h : AHeap) : D → D
 | .nilsl => .sl []
 | .row r ver off len => match h.f r with
  | some (.row sz ver' xs fz) => if ver = ver' ∧ off + len ≤ xs.length then .sl ((xs.drop off).take len) else .undef
  | _ => .undef
 | .agg ds => .agg (ds.map fun d => match d with
   | .nilsl => .sl []
   | .row r ver off len => match h.f r with
    | some (.row sz ver' xs fz) => if ver = ver' ∧ off + len ≤ xs.length then .sl ((xs.drop off).take len) else .undef
    | _ => .undef
   | d => d)
 | d => d
def frzId (h : AHeap) (r : Nat) : AHeap :=
 match h.f r with
 | some (.row sz ver xs _) => h.set r (.row sz ver xs true)
 | _ => h
def frz (h : AHeap) : D → AHeap
 | .row r _ _ _ => frzId h r
 | .agg ds => ds.foldl (fun h d => match d with | .row r _ _ _ => frzId h r | _ => h) h
 | _ => h
def frzL (h : AHeap) (ds : List D) : AHeap := ds.foldl frz h
def loadD (h : AHeap) (n : Option Nat) : D → Option D
 | .ptr id ver off => match h.f id with
  | some (.cells ds) => if ver = 1 then partD ds off n else none
  | _ => none
 | .eptr cells off => partD cells off n
 | .rptr r ver i f => match h.f r with
  | some (.row sz ver' xs fz) => if ver = ver' then (match xs[i]? with | some x => partD x f n | none => none) else none
  | some (.arow sz ver' xs old) => if ver = ver' then (match xs[i]? with | some x => partD x f n | none => none) else none
  | _ => none
 | _ => none
def storeD (h : AHeap) (n : Nat) (a v : D) : Option AHeap :=
 if (cellsD v).length = n ∧ (cellsD v).all cellOk = true then
  match a with
  | .ptr id ver off => match h.f id with
   | some (.cells ds) => if ver = 1 ∧ off + n ≤ ds.length then some (h.set id (.cells (setAt ds off (cellsD v)))) else none
   | _ => none
  | .rptr r ver i f => match h.f r with
   | some (.row sz ver' xs false) => if ver = ver' then (match xs[i]? with | some x => if f + n ≤ x.length then some (h.set r (.row sz ver' (xs.set i (setAt x f (cellsD v))) false)) else none | none => none) else none
   | _ => none
  | _ => none
 else none
def objNe (x y : D) : Bool :=
 match x, y with
 | .ptr i _ _, .ptr j _ _ | .ptr i _ _, .rptr j _ _ _ | .rptr i _ _ _, .ptr j _ _ | .rptr i _ _ _, .rptr j _ _ _ => !(i == j)
 | _, .eptr .. => true
 | _, _ => false
def objSame (x y : D) : Bool :=
 match x, y with
 | .eptr .., _ => true
 | .ptr i _ _, .ptr j _ _ | .ptr i _ _, .rptr j _ _ _ | .rptr i _ _ _, .ptr j _ _ | .rptr i _ _ _, .rptr j _ _ _ => i == j
 | _, _ => false
def intOfD : D → Option Int
 | .int _ n => some n
 | _ => none
def bounds (n : Nat) (lo hi : Option D) : Option (Nat × Nat) :=
 match (match lo with | none => some 0 | some d => intOfD d), (match hi with | none => some (n : Int) | some d => intOfD d) with
 | some l, some u => if 0 ≤ l ∧ l ≤ u ∧ u ≤ n then some (l.toNat, u.toNat) else none
 | _, _ => none
def sliceEv (k : SK) (x : D) (lo hi mx : Option D) : Option D :=
 match mx with
 | some _ => none
 | none =>
  match k, x with
  | .str, .str s => (bounds s.length lo hi).map fun b => .str ((s.drop b.1).take (b.2 - b.1))
  | .sl sz, .sl xs => if ∀ y ∈ xs, y.length = sz then (bounds xs.length lo hi).map fun b => .sl ((xs.drop b.1).take (b.2 - b.1)) else none
  | .arr n, .ptr id ver off => if ver = 1 ∧ n ≤ 9223372036854775807 then (bounds n lo hi).map fun b => .csl id (off + b.1) (b.2 - b.1) else none
  | _, _ => none
def eqInts : List D → List D → Option Bool
 | [], [] => some true
 | .int k a :: xs, .int k' b :: ys => if k = k' then (if a == b then eqInts xs ys else some false) else none
 | _, _ => none
def eqEv : ET → D → D → Option Bool
 | .bool, .bool a, .bool b => some (a == b)
 | .ptr, .nilptr, .nilptr => some true
 | .ptr, .ptr .., .nilptr => some false
 | .ptr, .nilptr, .ptr .. => some false
 | .slnil, .nilsl, .nilsl => some true
 | .funcnil, .func .., .nilfunc => some false
 | .funcnil, .nilfunc, .nilfunc => some true
 | .iface, .nilif, .nilif => some true
 | .iface, .iface .., .nilif => some false
 | .iface, .nilif, .iface .. => some false
 | .array n .prim, .agg a, .agg b => if a.length = n ∧ b.length = n then eqInts a b else none
 | _, _, _ => none
def pureEv : Ins D → Option D
 | .mov x => some x
 | .build zs ps => (buildD zs ps).map .agg
 | .nilCheck x => match x with
  | .ptr .. | .eptr .. | .rptr .. | .func (.func _) _ _ => some x
  | _ => none
 | .bin op x y => binEv op x y
 | .eql t neg x y => (eqEv t x y).map fun b => .bool (if neg then !b else b)
 | .un op x => unEv op x
 | .conv c x => match c, x with
  | .intInt k, .int _ n => some (.int k (k.wrap n))
  | .intFloat, .int _ n => some (.float .f64 (FloatKind.f64.nearest n))
  | .same, .str s => some (.str s)
  | .floatInt k, .float .f64 b => (floatToIntVal .f64 b k).map (.int k)
  | .floatFloat, .float .f64 b => some (.float .f64 b)
  | _, _ => none
 | .arrPtr n x => match x with
  | .csl id off len => if 0 < n ∧ n ≤ len then some (.ptr id 1 off) else none
  | _ => none
 | .slice k x lo hi mx => sliceEv k x lo hi mx
 | .fieldAddr o x => match x with
  | .ptr id ver off => some (.ptr id ver (off + o))
  | .eptr cs off => some (.eptr cs (off + o))
  | .rptr r ver i f => some (.rptr r ver i (f + o))
  | _ => none
 | .field o n x => match x with
  | .agg ds => partD ds o n
  | _ => none
 | .indexAddrA len sz x i => match x, i with
  | .ptr id ver off, .int _ i => if 0 ≤ i ∧ i < len then some (.ptr id ver (off + i.toNat * sz)) else none
  | .eptr cs off, .int _ i => if 0 ≤ i ∧ i < len then some (.eptr cs (off + i.toNat * sz)) else none
  | .rptr r ver j f, .int _ i => if 0 ≤ i ∧ i < len then some (.rptr r ver j (f + i.toNat * sz)) else none
  | _, _ => none
 | .indexAddrS sz x i => match x, i with
  | .sl xs, .int _ i => if 0 ≤ i then (match xs[i.toNat]? with | some x => if x.length = sz then some (.eptr x 0) else none | none => none) else none
  | .csl id off len, .int _ i => if 0 ≤ i ∧ i < len ∧ sz = 1 then some (.ptr id 1 (off + i.toNat)) else none
  | _, _ => none
 | .indexA len sz n x i => match x, i with
  | .agg ds, .int _ i => if 0 ≤ i ∧ i < len then partD ds (i.toNat * sz) n else none
  | _, _ => none
 | .indexS x i => match x, i with
  | .str s, .int _ i => if 0 ≤ i then (match s[i.toNat]? with | some b => some (.int .u8 (b.toNat : Int)) | none => none) else none
  | _, _ => none
 | .extract x i => match x with
  | .tuple ds => ds[i]?
  | _ => none
 | .mkIface t x => some (.iface t x)
 | .mkFunc fn a b => some (.func fn a b)
 | .minmax mx x y => match x, y with
  | .int k a, .int _ b => some (.int k (if mx then (if a < b then b else a) else (if b < a then b else a)))
  | _, _ => none
 | _ => none
def readEv (h : AHeap) : Ins D → Option D
 | .load n x => loadD h n x
 | .conv c x => match c with
  | .bytesStr => match elemsOf h x with
   | some xs => if xs.all isByte = true then some (.str (xs.map byteOf)) else none
   | none => none
  | _ => none
 | .slice k x lo hi mx => match k, x, mx with
  | .sl sz, .row r ver off len, none => match h.f r with
   | some (.row sz' ver' xs fz) => if sz' = sz ∧ ver' = ver then (bounds len lo hi).map fun b => .row r ver (off + b.1) (b.2 - b.1) else none
   | _ => none
  | _, _, _ => none
 | .indexAddrS sz x i => match x, i with
  | .row r ver off len, .int _ i => match h.f r with
   | some (.row sz' ver' xs fz) => if sz' = sz ∧ ver' = ver ∧ 0 ≤ i ∧ i < len then some (.rptr r ver (off + i.toNat) 0) else none
   | some (.arow sz' ver' xs old) => if sz' = sz ∧ ver' = ver ∧ 0 ≤ i ∧ i < len then some (.rptr r ver (off + i.toNat) 0) else none
   | _ => none
  | _, _ => none
 | _ => none
inductive AOut where
 | ret (d : D)
 | panic (d : D)
inductive OutRel (κ : Kap) (w : World) : AOut → Ending → Prop
 | ret {d : D} {v : Value} (h : Rep κ w v d) : OutRel κ w (.ret d) (.returned v)
 | panic {d : D} {v : Value} (h : Rep κ w v d) : OutRel κ w (.panic d) (.panicked [{ v, recovered := false }])
inductive RepL (κ : Kap) (w : World) : List Value → List D → Prop
 | nil : RepL κ w [] []
 | cons {v : Value} {d : D} {vs : List Value} {ds : List D} (h : Rep κ w v d) (t : RepL κ w vs ds) : RepL κ w (v :: vs) (d :: ds)
def callable (P : Program) (f : FuncId) : Bool :=
 match P.funcs[f]? with
 | some fn => !(fn.name == "runtime.NumGoroutine") && fn.body.isSome
 | none => false
def AOut.to (K : D → AHeap → Prop) (E : D → AHeap → Prop) : AOut → AHeap → Prop
 | .ret d, h => K d h
 | .panic d, h => E d h
def ACalls [Globs] (P : Program) (f : FuncId) (args : List D) (h : AHeap) (R : AOut → AHeap → Prop) : Prop :=
 callable P f = true ∧ ∀ (κ : Kap) (w : World) (vs : Array Value), Inv κ h w → RepL κ w vs.toList args →
  Calls P f vs w fun e w' => ∃ o h' κ', R o h' ∧ OutRel κ' w' o e ∧ Inv κ' h' w' ∧ Ev κ h w κ' h' w'
def PCall [Globs] (P : Program) (f : FuncId) (args : List D) (d : D) : Prop := ACalls P f args .emp fun o _ => o = .ret d
structure Tab where
 q : FuncId → List D → Option D
 a : FuncId → Option (List D)
 c : FuncId → List D → AHeap → (D → AHeap → Prop) → (D → AHeap → Prop) → Prop
 mono : ∀ f args h (K E K' E' : D → AHeap → Prop), (∀ d h, K d h → K' d h) → (∀ d h, E d h → E' d h) → c f args h K E → c f args h K' E'
 y : Nat → List D → AHeap → (D → AHeap → Prop) → Prop
 ymono : ∀ l args h (K K' : D → AHeap → Prop), (∀ d h, K d h → K' d h) → y l args h K → y l args h K'
 r : FuncId → Nat → (List D → AHeap → (D → AHeap → Prop) → Prop) → List D → AHeap → (D → AHeap → Prop) → Prop
 rmono : ∀ f l Y Y' args h (K K' : D → AHeap → Prop), (∀ args h (K K' : D → AHeap → Prop), (∀ d h, K d h → K' d h) → Y args h K → Y' args h K') → (∀ d h, K d h → K' d h) → r f l Y args h K → r f l Y' args h K'
def ACallsAt [Globs] (P : Program) (κ : Kap) (w : World) (f : FuncId) (args : List D) (h : AHeap) (R : AOut → AHeap → Prop) : Prop :=
 callable P f = true ∧ ∀ (vs : Array Value), Inv κ h w → RepL κ w vs.toList args →
  Calls P f vs w fun e w' => ∃ o h' κ', R o h' ∧ OutRel κ' w' o e ∧ Inv κ' h' w' ∧ Ev κ h w κ' h' w'
def YCalls [Globs] (P : Program) (κ : Kap) (w : World) (l : Nat) (args : List D) (h : AHeap) (K : D → AHeap → Prop) : Prop :=
 ∀ (vs : Array Value), Inv κ h w → RepL κ w vs.toList args →
  ∃ f tmps assign body, (Instr.yield l vs).run P w = .ok (.round l f tmps assign body) w ∧
   RoundIn Fence.wide 0 P l f tmps assign body w fun e w' => ∃ o h' κ', AOut.to K (fun _ _ => False) o h' ∧ OutRel κ' w' o e ∧ Inv κ' h' w' ∧ Ev κ h w κ' h' w'
def YMono (Y : List D → AHeap → (D → AHeap → Prop) → Prop) : Prop := ∀ args h (K K' : D → AHeap → Prop), (∀ d h, K d h → K' d h) → Y args h K → Y args h K'
def XCall (P : Program) (f : FuncId) (args : List D) (d : D) : Prop := ∀ (κ : Kap) (w : World) (vs : Array Value), RepL κ w vs.toList args → ∃ v, (callFunc f vs).run P w = .ok (.value v) w ∧ Rep κ w v d
structure Tab.okY [Globs] (P : Program) (κ : Kap) (w : World) (T : Tab) : Prop where
 q : ∀ f args d, T.q f args = some d → PCall P f args d ∨ XCall P f args d
 a : ∀ f ds h, T.a f = some ds → ACalls P f [] h fun o h' => ∃ id, h.f id = none ∧ o = .ret (.ptr id 1 0) ∧ h' = h.set id (.cells ds)
 c : ∀ f args h K E, T.c f args h K E → ∀ κ' w', Le κ w κ' w' → ACallsAt P κ' w' f args h (AOut.to K E)
 y : ∀ l args h K, T.y l args h K → ∀ κ' w', Le κ w κ' w' → YCalls P κ' w' l args h K
 r : ∀ f l Y args h K κ' w', Le κ w κ' w' → YMono Y → (∀ args h K, Y args h K → ∀ κ'' w'', Le κ' w' κ'' w'' → YCalls P κ'' w'' l args h K) → T.r f l Y args h K → ACallsAt P κ' w' f args h (AOut.to K fun _ _ => False)
structure Tab.ok [Globs] (P : Program) (T : Tab) : Prop where
 q : ∀ f args d, T.q f args = some d → PCall P f args d ∨ XCall P f args d
 a : ∀ f ds h, T.a f = some ds → ACalls P f [] h fun o h' => ∃ id, h.f id = none ∧ o = .ret (.ptr id 1 0) ∧ h' = h.set id (.cells ds)
 c : ∀ f args h K E, T.c f args h K E → ACalls P f args h (AOut.to K E)
 y : ∀ l args h K, ¬ T.y l args h K
 r : ∀ f l Y args h K κ w, YMono Y → (∀ args h K, Y args h K → ∀ κ' w', Le κ w κ' w' → YCalls P κ' w' l args h K) → T.r f l Y args h K → ACallsAt P κ w f args h (AOut.to K fun _ _ => False)
theorem ACalls.at_ [Globs] {P : Program} {f : FuncId} {args : List D} {h : AHeap} {R : AOut → AHeap → Prop} (c : ACalls P f args h R) (κ : Kap) (w : World) : ACallsAt P κ w f args h R := ⟨c.1, fun vs => c.2 κ w vs⟩
theorem Tab.ok.toY [Globs] {P : Program} {T : Tab} (hT : T.ok P) (κ : Kap) (w : World) : T.okY P κ w :=
 ⟨hT.q, hT.a, fun f args h K E x κ' w' _ => (hT.c f args h K E x).at_ κ' w', fun l args h K x => absurd x (hT.y l args h K), fun f l Y args h K κ' w' _ => hT.r f l Y args h K κ' w'⟩
theorem Le.trans {κ1 κ2 κ3 : Kap} {w1 w2 w3 : World} (a : Le κ1 w1 κ2 w2) (b : Le κ2 w2 κ3 w3) : Le κ1 w1 κ3 w3 :=
 ⟨fun x hx => ⟨(b.imm x (a.imm x hx).1).1, (b.imm x (a.imm x hx).1).2.trans (a.imm x hx).2⟩, fun id p hp => by
  obtain ⟨p', h1, h2, h3, h4⟩ := a.loc id p hp
  obtain ⟨p'', k1, k2, k3, k4⟩ := b.loc id p' h1
  refine ⟨p'', k1, Nat.le_trans h2 k2, fun e => ?_, h4.trans k4 h2 h3⟩
  have e1 : p'.ver = p.ver := by omega
  have := h3 e1
  subst this
  exact k3 e⟩
theorem Tab.okY.mono [Globs] {P : Program} {T : Tab} {κ κ' : Kap} {w w' : World} (hT : T.okY P κ w) (le : Le κ w κ' w') : T.okY P κ' w' :=
 ⟨hT.q, hT.a, fun f args h K E x κ'' w'' l => hT.c f args h K E x κ'' w'' (le.trans l), fun l args h K x κ'' w'' l' => hT.y l args h K x κ'' w'' (le.trans l'), fun f l Y args h K κ'' w'' l' => hT.r f l Y args h K κ'' w'' (le.trans l')⟩
def isArithF : BinOp → Bool
 | .add | .sub | .mul | .quo => true
 | _ => false
def srcOf (h : AHeap) (str : Bool) (x : D) : Option (List (List D)) :=
 match str, x with
 | true, .str b => some (encB b)
 | true, _ => none
 | false, x => elemsOf h x
def keptAt (h h' : AHeap) : D → Prop
 | .ptr id _ _ | .rptr id _ _ _ => h'.f id = h.f id
 | .eptr .. => True
 | _ => False
def cellAt (h : AHeap) : D → Bool
 | .ptr id _ _ => match h.f id with
  | some (.cells _) => true
  | _ => false
 | _ => false
def cutD (h : AHeap) : D → Option (D × AHeap)
 | .nilsl => some (.nilsl, h)
 | .row r ver off len => match h.f r with
  | some (.arow sz cur xs old) => if off = 0 then (if ver = cur ∧ len = xs.length then some (.row r ver 0 len, h) else if (ver, len) ∈ old then some (.row r (cur + 1) 0 len, h.set r (.arow sz (cur + 1) (xs.take len) (old.filter fun e => decide (e.1 ≤ ver)))) else none) else none
  | _ => none
 | _ => none
def cutL (h : AHeap) : List D → Option (List D × AHeap)
 | [] => some ([], h)
 | d :: ds => match cutD h d with
  | some (d', h1) => match cutL h1 ds with
   | some (ds', h2) => some (d' :: ds', h2)
   | none => none
  | none => none
def cutV (h : AHeap) : D → Option (D × AHeap)
 | .agg ds => match cutL h ds with
  | some (ds', h') => some (.agg ds', h')
  | none => none
 | _ => none
def scalar : D → Bool
 | .bool _ | .int .. | .float .. | .str _ | .undef => true
 | _ => false
def lentH (d : D) (h h' : AHeap) : AHeap := bif scalar d then h else h'
def AHeap.puts (h : AHeap) (L : List (Nat × AObj)) : AHeap := L.foldr (fun p h => h.set p.1 p.2) h
def vcI (T : Tab) (i : Ins D) (h : AHeap) (K : D → AHeap → Prop) (E : D → AHeap → Prop) : Prop :=
 match i with
 | .pick c a b => match c with
  | .bool c => (c = true → K a h) ∧ (c = false → K b h)
  | _ => False
 | .alloc ds => ∀ id, h.f id = none → K (.ptr id 1 0) (h.set id (.cells ds))
 | .box x => (cellsD x).all cellOk = true ∧ ∀ id, h.f id = none → K (.ptr id 1 0) (h.set id (.cells (cellsD x)))
 | .buildSlice sz zs len ps asRow => ∃ xs, buildRows sz (rowsOf sz zs len) ps = some xs ∧
   (match asRow with
    | true => ∀ id, h.f id = none → K (.row id (len + 2) 0 len) (h.set id (.row sz (len + 2) xs false))
    | false => K (.sl (normX zs xs)) h)
 | .load n x => ∃ d, loadD h n x = some d ∧ K d h
 | .loadOf n x b => ∃ d, (if objSame x b = true then loadD h n x else none) = some d ∧ K d h
 | .callA k => ∃ ds, T.a k = some ds ∧ ∀ id, h.f id = none → K (.ptr id 1 0) (h.set id (.cells ds))
 | .store n x v => ∃ h', storeD h n x v = some h' ∧ K .undef h'
 | .storeNe n x v ys => ys.all (objNe x) = true ∧ ∃ h', storeD h n x v = some h' ∧ K .undef h'
 | .conv c x => match c with
  | .bytesStr => ∃ d, readEv h (.conv .bytesStr x) = some d ∧ K d h
  | .strBytes => match x with
   | .str s => K (.sl (encB s)) h
   | _ => False
  | _ => ∃ d, pureEv i = some d ∧ K d h
 | .slice k x lo hi mx => match x with
  | .row .. => ∃ d, readEv h (.slice k x lo hi mx) = some d ∧ K d h
  | _ => ∃ d, pureEv (.slice k x lo hi mx) = some d ∧ K d h
 | .indexAddrS sz x i => match x with
  | .row .. => ∃ d, readEv h (.indexAddrS sz x i) = some d ∧ K d h
  | _ => ∃ d, pureEv (.indexAddrS sz x i) = some d ∧ K d h
 | .len k x => match k, x with
  | .str, .str s => s.length ≤ 9223372036854775807 → K (.int .i64 (s.length : Int)) h
  | .arr n, _ => K (.int .i64 (n : Int)) h
  | .sl, .nilsl => K (.int .i64 0) h
  | .sl, .sl xs => xs.length ≤ 9223372036854775807 → K (.int .i64 (xs.length : Int)) h
  | .sl, .row r ver off len => len ≤ 9223372036854775807 → K (.int .i64 (len : Int)) h
  | .sl, .csl id off len => len ≤ 9223372036854775807 → K (.int .i64 (len : Int)) h
  | _, _ => False
 | .append sz bytes str s x => ∃ ys, srcOf h str x = some ys ∧ (∀ y ∈ ys, y.length = sz ∧ y.all cellOk = true) ∧ 0 < bytes ∧
   (match s with
    | .nilsl => (ys = [] → K .nilsl h) ∧ ys.length * bytes ≤ 140737488355328 ∧ (ys ≠ [] → ∀ id, h.f id = none → K (.row id (ys.length + 2) 0 ys.length) (h.set id (.row sz (ys.length + 2) ys false)))
    | .row r ver off len => match h.f r with
     | some (.row sz' ver' xs false) => ver = ver' ∧ sz' = sz ∧ off = 0 ∧ len = xs.length ∧ (xs.length + ys.length) * bytes ≤ 140737488355328 ∧
       K (.row r (ver + ys.length) 0 (len + ys.length)) (h.set r (.row sz (ver + ys.length) (xs ++ ys) false))
     | _ => False
    | _ => False)
 | .makeSlice sz bytes zs l c => match l, c with
  | .int _ l, .int _ c => 0 ≤ l ∧ l = c ∧ l * bytes ≤ 140737488355328 ∧ zs.length = sz ∧ 0 < sz ∧ ∀ id, h.f id = none → K (.row id (l.toNat + 2) 0 l.toNat) (h.set id (.row sz (l.toNat + 2) (rowsOf sz zs l.toNat) false))
  | _, _ => False
 | .call f args => match f with
  | .func (.func k) first cap => T.c k ((first ++ args ++ cap).map (plain h)) (frzL h (first ++ args ++ cap)) K E
  | .func (.yield l) first cap => ∃ h1 L, frzL h (first ++ args) = AHeap.puts h1 L ∧ (∀ p ∈ L, h1.f p.1 = none) ∧
    T.y l ((first ++ args).map (plain h)) h1 (fun d h' => (∀ p ∈ L, h'.f p.1 = none) → K d (h'.puts L))
  | _ => False
 | .callR f args => match f with
  | .func (.func k) first cap => T.c k (first ++ args ++ cap) h K E
  | _ => False
 | .callNe f args ys => match f with
  | .func (.func k) first cap => T.c k ((first ++ args ++ cap).map (plain h)) (frzL h (first ++ args ++ cap)) (fun d h' => (∀ y ∈ ys, keptAt h h' y) ∧ K d h') E
  | _ => False
 | .appendA sz bytes str s x zs => zs.all (cellAt h) = true ∧ ∃ ys, srcOf h str x = some ys ∧ (∀ y ∈ ys, y.length = sz ∧ y.all cellOk = true) ∧ 0 < bytes ∧ ys ≠ [] ∧
   (match s with
    | .nilsl => ys.length * bytes ≤ 140737488355328 ∧ ∀ id, h.f id = none → K (.row id 2 0 ys.length) (h.set id (.arow sz 2 ys []))
    | .row r ver off len => match h.f r with
     | some (.arow sz' ver' xs old) => ver = ver' ∧ sz' = sz ∧ off = 0 ∧ len = xs.length ∧ (xs.length + ys.length) * bytes ≤ 140737488355328 ∧
       K (.row r (ver + 1) 0 (len + ys.length)) (h.set r (.arow sz (ver + 1) (xs ++ ys) ((ver, len) :: old)))
     | _ => False
    | _ => False)
 | .storeB n x v => match cutV h v with
  | some (v', h1) => ∃ h', storeD h1 n x v' = some h' ∧ K .undef h'
  | none => False
 | .qcall f args => match f with
  | .func (.func k) first cap => ∃ d, T.q k ((first ++ args ++ cap).map (plain h)) = some d ∧ K d (lentH d h (frzL h (first ++ args ++ cap)))
  | _ => False
 | .panic x => match x with
  | .iface t d => E (.iface t d) h
  | _ => False
 | .farith op x y => match x, y with
  | .float .f64 a, .float .f64 b => isArithF op = true ∧ (match floatBits op .f64 a b with
   | some r => K (.float .f64 r) h
   | none => ∀ r, FloatKind.f64.format.order r r = none → K (.float .f64 r) h)
  | _, _ => False
 | .isNil neg x => match x with
  | .nilsl => K (.bool (!neg)) h
  | .sl xs => (xs = [] → K (.bool (!neg)) h) ∧ K (.bool neg) h
  | .row .. => K (.bool neg) h
  | _ => False
 | .srange x => match x with
  | .str s => ∀ id, h.f id = none → K (.iter id) (h.set id (.siter s 0))
  | _ => False
 | .snext x => match x with
  | .iter id => match h.f id with
   | some (.siter s pos) => (pos < s.length → K (.tuple [.bool true, .int .i64 (pos : Int), .int .i32 ((Utf8.decode ⟨s.toArray⟩ pos).1 : Int)]) (h.set id (.siter s (pos + (Utf8.decode ⟨s.toArray⟩ pos).2)))) ∧ (s.length ≤ pos → K (.tuple [.bool false]) h)
   | _ => False
  | _ => False
 | .typeAssert t ok z x => match x with
  | .iface t' d => t' = t ∧ K (bif ok then .tuple [d, .bool true] else d) h
  | _ => False
 | .len0 .. | .makeMap | .lookup .. | .mapUpdate .. | .delete .. | .defer .. => False
 | i => ∃ d, pureEv i = some d ∧ K d h
end Go.Proofs.YtpagdhbmbnoddaaGreatDoor.Zz
namespace Go.Proofs.YtpagdhbmbnoddaaGreatDoor.Zz
def absC : Value → Option D
  | .bool b => some (.bool b)
  | .int k n => some (.int k n)
  | .float k b => some (.float k b)
  | .string s => if s.data.toList.length ≤ 9223372036854775807 then some (.str s.data.toList) else none
  | .pointer none => some .nilptr
  | .slice none 0 0 => some .nilsl
  | .nilIface => some .nilif
  | .nilFunc => some .nilfunc
  | .map none => some .nilmap
  | _ => none
def absL : List Value → Option (List D)
  | [] => some []
  | v :: vs => match absC v, absL vs with
    | some d, some ds => some (d :: ds)
    | _, _ => none
def absV : Value → Option D
  | .agg cs => (absL cs.toList).map .agg
  | v => absC v
theorem absC_rep {κ : Kap} {w : World} {v : Value} {d : D} (h : absC v = some d) : Rep κ w v d := by
  unfold absC at h
  split at h
  all_goals first
    | (cases h; done)
    | (cases h; first | exact .bool _ | exact .int _ _ | exact .float _ _ | exact .nilptr | exact .nilsl | exact .nilif | exact .nilfunc | exact .nilmap)
    | (split at h
       · cases h
         rename_i s hs
         have := Rep.str (κ := κ) (w := w) s.data.toList hs
         simpa using this
       · cases h)
theorem absL_rep {κ : Kap} {w : World} : ∀ {vs : List Value} {ds : List D}, absL vs = some ds → RepL κ w vs ds
  | [], ds, h => by simp [absL] at h; subst h; exact .nil
  | v :: vs, ds, h => by
    simp only [absL] at h
    split at h
    · rename_i d ds' h1 h2
      cases h
      exact .cons (absC_rep h1) (absL_rep h2)
    · cases h
theorem RepL.length {κ : Kap} {w : World} {vs : List Value} {ds : List D} (h : RepL κ w vs ds) : vs.length = ds.length := by
  induction h with
  | nil => rfl
  | cons _ _ ih => simp [ih]
theorem RepL.get {κ : Kap} {w : World} {vs : List Value} {ds : List D} (h : RepL κ w vs ds) : ∀ (i : Nat) (d : D), ds[i]? = some d → ∃ v, vs[i]? = some v ∧ Rep κ w v d := by
  induction h with
  | nil => intro i d e; simp at e
  | cons a _ ih =>
    intro i d e
    cases i with
    | zero => simp at e; subst e; exact ⟨_, by simp, a⟩
    | succ i => simp at e; simpa using ih i d e
theorem RepL.of_get {κ : Kap} {w : World} : ∀ {vs : List Value} {ds : List D}, vs.length = ds.length → (∀ (i : Nat) (d : D), ds[i]? = some d → ∃ v, vs[i]? = some v ∧ Rep κ w v d) → RepL κ w vs ds
  | [], [], _, _ => .nil
  | v :: vs, d :: ds, hl, h => by
    obtain ⟨v', e, r⟩ := h 0 d (by simp)
    simp at e
    subst e
    exact .cons r (RepL.of_get (by simpa using hl) fun i d hd => by simpa using h (i + 1) d (by simpa using hd))
  | [], _ :: _, hl, _ => by simp at hl
  | _ :: _, [], hl, _ => by simp at hl
theorem RepL.mono {κ κ' : Kap} {w w' : World} {vs : List Value} {ds : List D} (h : RepL κ w vs ds) (le : Le κ w κ' w') : RepL κ' w' vs ds := by
  induction h with
  | nil => exact .nil
  | cons a _ ih => exact .cons (a.mono le) ih
theorem RepL.append {κ : Kap} {w : World} {vs us : List Value} {ds es : List D} (h : RepL κ w vs ds) (k : RepL κ w us es) : RepL κ w (vs ++ us) (ds ++ es) := by
  induction h with
  | nil => exact k
  | cons a _ ih => exact .cons a ih
theorem RepL.agg {κ : Kap} {w : World} {cs : Array Value} {ds : List D} (h : RepL κ w cs.toList ds) : Rep κ w (.agg cs) (.agg ds) :=
  .agg (by have := h.length; simpa using this) fun i d hd => by
    obtain ⟨v, e, r⟩ := h.get i d hd
    have : cs.getD i (.tuple #[]) = v := by
      have e' : cs[i]? = some v := by simpa using e
      simp [Array.getD_eq_getD_getElem?, e']
    rw [this]; exact r
theorem RepL.tuple {κ : Kap} {w : World} {cs : Array Value} {ds : List D} (h : RepL κ w cs.toList ds) : Rep κ w (.tuple cs) (.tuple ds) :=
  .tuple (by have := h.length; simpa using this) fun i d hd => by
    obtain ⟨v, e, r⟩ := h.get i d hd
    have : cs.getD i (.tuple #[]) = v := by
      have e' : cs[i]? = some v := by simpa using e
      simp [Array.getD_eq_getD_getElem?, e']
    rw [this]; exact r
theorem RepL.of_arr {κ : Kap} {w : World} {cs : Array Value} {ds : List D} (hs : cs.size = ds.length) (hr : ∀ (i : Nat) (d : D), ds[i]? = some d → Rep κ w (cs.getD i (.tuple #[])) d) : RepL κ w cs.toList ds :=
  RepL.of_get (by simpa using hs) fun i d hd => by
    have hi : i < cs.size := by
      have := (List.getElem?_eq_some_iff.1 hd).1
      omega
    have hr' := hr i d hd
    refine ⟨cs[i], by simp [hi], ?_⟩
    simpa [Array.getD, hi] using hr'
theorem absV_rep {κ : Kap} {w : World} {v : Value} {d : D} (h : absV v = some d) : Rep κ w v d := by
  unfold absV at h
  split at h
  · rename_i cs
    cases e : absL cs.toList with
    | none => simp [e] at h
    | some ds =>
      simp [e] at h
      subst h
      exact (absL_rep e).agg
  · exact absC_rep h
def opd [Globs] : Operand → Option Opd
  | .tmp t => some (.t t)
  | .const v => (absV v).map .c
  | .func f => some (.f f)
  | .global g => (Globs.of g).map fun ds => .c (.eptr ds 0)
def opds [Globs] (l : List Operand) : Option (List Opd) := l.mapM opd
def opdO [Globs] : Option Operand → Option (Option Opd)
  | none => some none
  | some x => (opd x).map some
inductive DefRep (κ : Kap) (w : World) : Deferred → DDef → Prop
  | col {r id : Nat} {p : Place} (hl : κ.loc id = some p) (hv : p.ver = 1) (hb : p.blk = r) : DefRep κ w { target := .collected r, args := #[] } { fn := .yield id, cap := [], args := [] }
  | mk {k : FuncId} {cap args : Array Value} {dc da : List D} (hc : RepL κ w cap.toList dc) (ha : RepL κ w args.toList da) : DefRep κ w { target := .fn (.func k) cap, args := args } { fn := .func k, cap := dc, args := da }
inductive DefsRep (κ : Kap) (w : World) : List Deferred → List DDef → Prop
  | nil : DefsRep κ w [] []
  | cons {d : Deferred} {e : DDef} {ds : List Deferred} {es : List DDef} (h : DefRep κ w d e) (t : DefsRep κ w ds es) : DefsRep κ w (d :: ds) (e :: es)
structure Pre [Globs] (κ : Kap) (w : World) (σ : Fr) (n : Nat) (a : Act) : Prop where
  size : a.tmps.size = n
  env : ∀ i, Rep κ w (a.tmps.getD i undef) (σ.env i)
  defs : DefsRep κ w a.defers σ.defs
  glob : GlobRep κ w
theorem DefsRep.mono {κ κ' : Kap} {w w' : World} {a : List Deferred} {b : List DDef} (h : DefsRep κ w a b) (le : Le κ w κ' w') : DefsRep κ' w' a b := by
  induction h with
  | nil => exact .nil
  | cons h _ ih =>
    cases h with
    | mk hc ha => exact .cons (.mk (hc.mono le) (ha.mono le)) ih
    | col hl hv hb =>
      obtain ⟨p', h1, h2, h3, h4⟩ := le.loc _ _ hl
      have := h4.one hv
      subst this
      exact .cons (.col h1 hv hb) ih
theorem Pre.mono [Globs] {κ κ' : Kap} {w w' : World} {σ : Fr} {n : Nat} {a : Act} (h : Pre κ w σ n a) (le : Le κ w κ' w') : Pre κ' w' σ n a :=
  ⟨h.size, fun i => (h.env i).mono le, h.defs.mono le, h.glob.mono le⟩
theorem Pre.put [Globs] {κ : Kap} {w : World} {σ : Fr} {n : Nat} {a : Act} (h : Pre κ w σ n a) (dst : Option Tmp) (hd : ∀ t, dst = some t → t < n) {v : Value} {d : D} (r : Rep κ w v d) : Pre κ w (σ.put dst d) n (a.put dst v) := by
  cases dst with
  | none => exact h
  | some t =>
    have ht := hd t rfl
    refine ⟨by simp [Act.put, h.size], fun i => ?_, h.defs, h.glob⟩
    by_cases e : i = t
    · subst e
      have : i < a.tmps.size := by rw [h.size]; exact ht
      simpa [Act.put, Array.getD_eq_getD_getElem?, this] using r
    · have e' : t ≠ i := fun x => e x.symm
      simpa [Act.put, Array.getD_eq_getD_getElem?, Array.getElem?_setIfInBounds_ne e', e] using h.env i
theorem Pre.forget [Globs] {κ : Kap} {w : World} {σ : Fr} {n : Nat} {a : Act} (h : Pre κ w σ n a) : Pre κ w σ.forget n a := ⟨h.size, fun _ => .undef _, h.defs, h.glob⟩
theorem opd_rep [Globs] {κ : Kap} {w : World} {σ : Fr} {n : Nat} {a : Act} (h : Pre κ w σ n a) {x : Operand} {y : Opd} (e : opd x = some y) : Rep κ w (a.eval x) (σ.ev y) := by
  cases x with
  | tmp t => simp [opd] at e; subst e; exact h.env t
  | const v =>
    simp only [opd, Option.map_eq_some_iff] at e
    obtain ⟨d, e1, rfl⟩ := e
    exact absV_rep e1
  | func f =>
    simp [opd] at e
    subst e
    exact .func (by rfl) (by rfl) (fun i d hd => by simp at hd) (fun i d hd => by simp at hd)
  | global g =>
    simp only [opd, Option.map_eq_some_iff] at e
    obtain ⟨ds, e1, rfl⟩ := e
    exact h.glob.rep e1
theorem opds_rep [Globs] {κ : Kap} {w : World} {σ : Fr} {n : Nat} {a : Act} (h : Pre κ w σ n a) : ∀ {l : List Operand} {ys : List Opd}, opds l = some ys → RepL κ w (l.map a.eval) (ys.map σ.ev)
  | [], ys, e => by simp [opds] at e; subst e; exact .nil
  | x :: l, ys, e => by
    simp only [opds, List.mapM_cons, Option.bind_eq_bind, Option.bind_eq_some_iff] at e
    obtain ⟨y, e1, ys', e2, e3⟩ := e
    cases e3
    exact .cons (opd_rep h e1) (opds_rep h e2)
def fieldsOf (P : Program) (t : TypeId) : Option (Array Field) :=
  match P.underlying t with
  | some (.struct fs) => some fs
  | _ => none
def sizeOfT (P : Program) (t : TypeId) : Option Nat := (P.info? t).map (·.size)
def bytesOfT (P : Program) (t : TypeId) : Option Nat := (P.info? t).map (·.bytes)
def zeroOfT (P : Program) (t : TypeId) : Option D := (P.info? t).bind fun i => i.zero.bind absV
def shapeOf (P : Program) (t : TypeId) : Option (Option Nat) :=
  match P.underlying t, sizeOfT P t with
  | some (.struct _), some n => some (some n)
  | some (.array _ _), some n => some (some n)
  | some _, some n => if n = 1 then some none else none
  | _, _ => none
def elemOfSl (P : Program) (t : TypeId) : Option TypeId :=
  match P.underlying t with
  | some (.slice e) => some e
  | _ => none
def etOf (P : Program) (t : TypeId) : Option ET :=
  match P.underlying t with
  | some .bool => some .bool
  | some (.pointer _) => some .ptr
  | some (.slice _) => some .slnil
  | some (.func _ _ _) => some .funcnil
  | some (.interface _) => some .iface
  | some (.array n e) => match P.underlying e with
    | some (.int _) => if P.eqGuardType P.depth t = false ∧ P.cellsOf e = 1 ∧ (P.info? e).isSome = true then some (.array n .prim) else none
    | _ => none
  | _ => none
def primT (P : Program) (t : TypeId) : Bool :=
  match P.underlying t with
  | some (.int _) | some .string | some (.float _) => true
  | _ => false
def nilT (P : Program) (t : TypeId) (b : Opd) : Bool :=
  match P.underlying t, b with
  | some (.slice _), .c .nilsl => true
  | _, _ => false
def isConstO : Operand → Bool
  | .const _ => true
  | _ => false
def ckOf (P : Program) (s d : TypeId) : Option CK :=
  match P.underlying s, P.underlying d with
  | some (.int _), some (.int k) => some (.intInt k)
  | some (.int _), some (.float .f64) => some .intFloat
  | some (.float .f64), some (.int k) => some (.floatInt k)
  | some (.float .f64), some (.float .f64) => some .floatFloat
  | some .string, some .string => some .same
  | some .string, some (.slice e) => match P.underlying e with
    | some (.int .u8) => some .strBytes
    | _ => none
  | some (.slice e), some .string => match P.underlying e with
    | some (.int .u8) => some .bytesStr
    | _ => none
  | _, _ => none
def partsOf [Globs] (P : Program) (fs : Array Field) : List (Nat × Operand) → Option (List (Nat × Nat × Opd))
  | [] => some []
  | (i, x) :: ps => match fs[i]?, opd x, partsOf P fs ps with
    | some f, some y, some qs => (sizeOfT P f.type).map fun n => (f.offset, n, y) :: qs
    | _, _, _ => none
def partsOfA [Globs] (sz : Nat) : List (Nat × Operand) → Option (List (Nat × Nat × Opd))
  | [] => some []
  | (i, x) :: ps => match opd x, partsOfA sz ps with
    | some y, some qs => some ((i * sz, sz, y) :: qs)
    | _, _ => none
def partsOfS [Globs] : List (Nat × Operand) → Option (List (Nat × Opd))
  | [] => some []
  | (i, x) :: ps => match opd x, partsOfS ps with
    | some y, some qs => some ((i, y) :: qs)
    | _, _ => none
def isFlt (P : Program) (t : TypeId) : Bool :=
  match P.underlying t with
  | some (.float _) => true
  | _ => false
def compI [Globs] (P : Program) (asRow quiet : Bool) (o : Oper) : Option (Ins Opd) :=
  match o.op with
  | .move x | .assign x => (opd x).map .mov
  | .pick c a b => match opd c, opd a, opd b with
    | some c, some a, some b => some (.pick c a b)
    | _, _, _ => none
  | .alloc t => (zeroOfT P t).map fun d => .alloc (cellsD d)
  | .box t x => (opd x).map .box
  | .build t ps => match P.underlying t, zeroOfT P t with
    | some (.struct fs), some z => if fs.toList.all (fun f => (sizeOfT P f.type).isSome) = true then (partsOf P fs ps.toList).map fun qs => .build (cellsD z) qs else none
    | some (.array _ e), some z => match sizeOfT P e with
      | some sz => (partsOfA sz ps.toList).map fun qs => .build (cellsD z) qs
      | none => none
    | _, _ => none
  | .buildSlice t n ps => match elemOfSl P t with
    | some e => match sizeOfT P e, zeroOfT P e with
      | some sz, some z => if n * sz ≤ 16777216 ∧ (cellsD z).length = sz ∧ 0 < sz then (partsOfS ps.toList).map fun qs => .buildSlice sz (cellsD z) n qs asRow else none
      | _, _ => none
    | none => none
  | .load t x => match shapeOf P t, opd x with
    | some n, some y => some (.load n y)
    | _, _ => none
  | .store t x v => match shapeOf P t, sizeOfT P t, opd x, opd v with
    | some _, some n, some y, some u => some (.store n y u)
    | _, _, _, _ => none
  | .nilCheck x => (opd x).map .nilCheck
  | .binOp op t x y _ => match opd x, opd y with
    | some a, some b => match op with
      | .eql => if primT P t then some (.bin .eql a b) else if nilT P t b then some (.isNil false a) else if isConstO x || isConstO y then (etOf P t).map fun e => .eql e false a b else if etOf P t matches some .iface then none else (etOf P t).map fun e => .eql e false a b
      | .neq => if primT P t then some (.bin .neq a b) else if nilT P t b then some (.isNil true a) else if isConstO x || isConstO y then (etOf P t).map fun e => .eql e true a b else if etOf P t matches some .iface then none else (etOf P t).map fun e => .eql e true a b
      | op => if (isArithF op && isFlt P t) = true then some (.farith op a b) else some (.bin op a b)
    | _, _ => none
  | .unOp op _ x => (opd x).map (.un op)
  | .convert s d x => match ckOf P s d, opd x with
    | some c, some y => some (.conv c y)
    | _, _ => none
  | .sliceToArrayPointer t x => match P.underlying t, opd x with
    | some (.array n _), some y => some (.arrPtr n y)
    | _, _ => none
  | .makeInterface t x => match P.underlying t with
    | some (.interface _) => none
    | some _ => (opd x).map (.mkIface t)
    | none => none
  | .makeFunc fn a b => match opds a.toList, opds b.toList with
    | some a, some b => some (.mkFunc fn a b)
    | _, _ => none
  | .slice t x lo hi mx => match opd x, opdO lo, opdO hi, opdO mx with
    | some x, some lo, some hi, some none => match P.underlying t with
      | some .string => some (.slice .str x lo hi none)
      | some (.slice e) => (sizeOfT P e).map fun sz => .slice (.sl sz) x lo hi none
      | some (.array n e) => if sizeOfT P e = some 1 then some (.slice (.arr n) x lo hi none) else none
      | _ => none
    | _, _, _, _ => none
  | .fieldAddr s x f => match fieldsOf P s, opd x with
    | some fs, some y => match fs[f]? with
      | some fd => match sizeOfT P fd.type with
        | some n => if n ≠ 0 then some (.fieldAddr fd.offset y) else none
        | none => none
      | none => none
    | _, _ => none
  | .field s x f => match fieldsOf P s, opd x with
    | some fs, some y => match fs[f]? with
      | some fd => (shapeOf P fd.type).map fun n => .field fd.offset n y
      | none => none
    | _, _ => none
  | .indexAddr t x i => match opd x, opd i with
    | some x, some i => match P.underlying t with
      | some (.array n e) => (sizeOfT P e).map fun sz => .indexAddrA n sz x i
      | some (.slice e) => match sizeOfT P e with
        | some sz => if 0 < sz then some (.indexAddrS sz x i) else none
        | none => none
      | _ => none
    | _, _ => none
  | .index t x i => match opd x, opd i with
    | some x, some i => match P.underlying t with
      | some (.array n e) => match sizeOfT P e, shapeOf P e with
        | some sz, some k => some (.indexA n sz k x i)
        | _, _ => none
      | some .string => some (.indexS x i)
      | _ => none
    | _, _ => none
  | .extract x i => (opd x).map fun y => .extract y i
  | .panic x => (opd x).map .panic
  | .call c => match c.callee with
    | .value f => match opd f, opds c.args.toList with
      | some g, some as => some (if quiet then .qcall g as else if asRow then .callR g as else .call g as)
      | _, _ => none
    | .builtin b => match b, opds c.args.toList, c.argTypes[0]? with
      | .len, some [x], some t => match P.underlying t with
        | some .string => some (.len .str x)
        | some (.slice _) => some (.len .sl x)
        | some (.array n _) => some (.len (.arr n) x)
        | _ => none
      | .min, some [x, y], _ => some (.minmax false x y)
      | .max, some [x, y], _ => some (.minmax true x y)
      | .append, some [s, x], some t => match elemOfSl P t, c.argTypes.toList with
        | some e, [_, t2] => match sizeOfT P e, bytesOfT P e, zeroOfT P e, P.underlying t2 with
          | some sz, some by_, some z, some (.slice _) => if (cellsD z).length = sz ∧ 0 < sz then some (.append sz by_ false s x) else none
          | some sz, some by_, some z, some .string => if (cellsD z).length = sz ∧ sz = 1 then some (.append sz by_ true s x) else none
          | _, _, _, _ => none
        | _, _ => none
      | _, _, _ => none
    | _ => none
  | .range t x => match P.underlying t with
    | some .string => (opd x).map .srange
    | _ => none
  | .next x b => match b with
    | true => (opd x).map .snext
    | false => none
  | .typeAssert x xt t ok => match P.underlying t with
    | some (.interface _) => none
    | some _ => (opd x).map (.typeAssert t ok .undef)
    | none => none
  | .makeSlice t l c => match elemOfSl P t, opd l, opd c with
    | some e, some l, some c => match sizeOfT P e, bytesOfT P e, zeroOfT P e with
      | some sz, some by_, some z => if (cellsD z).length = 1 ∧ sz = 1 ∧ cellOk z = true ∧ 0 < by_ then some (.makeSlice sz by_ (cellsD z) l c) else none
      | _, _, _ => none
    | _, _, _ => none
  | _ => none
end Go.Proofs.YtpagdhbmbnoddaaGreatDoor.Zz
namespace Go.Proofs.YtpagdhbmbnoddaaGreatDoor.Zz
variable {P : Program} {κ : Kap} {h : AHeap} {w : World} {σ : Fr} {n : Nat} {a : Act}
def UponA [Globs] (P : Program) (κ : Kap) (h : AHeap) (w : World) (K : D → AHeap → Prop) (E : D → AHeap → Prop) : Result Next → Prop
 | .ok (.value v) w' => ∃ κ' h' d, K d h' ∧ Rep κ' w' v d ∧ Inv κ' h' w' ∧ Ev κ h w κ' h' w'
 | .ok .skip w' => ∃ κ' h', K .undef h' ∧ Inv κ' h' w' ∧ Ev κ h w κ' h' w'
 | .ok (.enter f vs) w' => Calls P f vs w' fun e w'' => ∃ o h'' κ'', AOut.to K E o h'' ∧ OutRel κ'' w'' o e ∧ Inv κ'' h'' w'' ∧ Ev κ h w κ'' h'' w''
 | .ok (.round l f tmps assign body) w' => RoundIn Fence.wide 0 P l f tmps assign body w' fun e w'' => ∃ o h'' κ'', AOut.to K E o h'' ∧ OutRel κ'' w'' o e ∧ Inv κ'' h'' w'' ∧ Ev κ h w κ'' h'' w''
 | .halt (.panic v) w' => ∃ κ' h' d, E d h' ∧ Rep κ' w' v d ∧ Inv κ' h' w' ∧ Ev κ h w κ' h' w'
 | _ => False
variable {K E : D → AHeap → Prop}
theorem UponA.val [Globs] (hi : Inv κ h w) {v : Value} {d : D} (hk : K d h) (r : Rep κ w v d) : UponA P κ h w K E (.ok (.value v) w) := ⟨κ, h, d, hk, r, hi, Ev.refl κ h w⟩
theorem run_typeInfo {t : TypeId} {i : TypeInfo} (e : P.info? t = some i) (w : World) : (typeInfo t).run P w = .ok i w := by simp [typeInfo, e]
theorem run_sizeOf {t : TypeId} {k : Nat} (e : sizeOfT P t = some k) (w : World) : (sizeOf t).run P w = .ok k w := by
 unfold sizeOfT at e
 cases e1 : P.info? t with
 | none => simp [e1] at e
 | some i => simp [e1] at e; simp [sizeOf, run_typeInfo e1, e]
theorem run_zeroValue {t : TypeId} {d : D} (e : zeroOfT P t = some d) (κ : Kap) (w : World) : ∃ v, (zeroValue t).run P w = .ok v w ∧ Rep κ w v d ∧ ∃ i, P.info? t = some i ∧ i.zero = some v := by
 unfold zeroOfT at e
 cases e1 : P.info? t with
 | none => simp [e1] at e
 | some i =>
  cases e2 : i.zero with
  | none => simp [e1, e2] at e
  | some v =>
   simp [e1, e2] at e
   exact ⟨v, by simp [zeroValue, run_typeInfo e1, e2], absV_rep e, i, rfl, e2⟩
theorem run_isAgg_some {t : TypeId} {k : Nat} (e : shapeOf P t = some (some k)) (w : World) : (isAgg t).run P w = .ok true w ∧ sizeOfT P t = some k := by
 unfold shapeOf at e
 split at e
 ·rename_i fs m e1 e2; simp at e; subst e; exact ⟨by simp [isAgg, run_underlying e1], e2⟩
 ·rename_i l el m e1 e2; simp at e; subst e; exact ⟨by simp [isAgg, run_underlying e1], e2⟩
 ·split at e <;> simp at e
 ·simp at e
theorem run_isAgg_none {t : TypeId} (e : shapeOf P t = some none) (w : World) : (isAgg t).run P w = .ok false w ∧ sizeOfT P t = some 1 := by
 unfold shapeOf at e
 split at e
 ·simp at e
 ·simp at e
 ·rename_i d m e1 e2 h1 h2
  split at e
  ·rename_i hm
   subst hm
   refine ⟨?_, h2⟩
   cases d <;> first | (simp [isAgg, run_underlying h1]; done) | simp_all
  ·simp at e
 ·simp at e
theorem rep_cells {v : Value} {d : D} (r : Rep κ w v d) (hd : d ≠ .undef) : RepL κ w v.cells.toList (cellsD d) := by
 cases r with
 | undef => exact absurd rfl hd
 | agg hs hr => exact RepL.of_arr hs hr
 | _ => exact .cons (by first | exact .bool _ | exact .int _ _ | exact .float _ _ | exact .str _ ‹_› | exact .nilptr | exact .nilsl | exact .slnil ‹_› | exact .nilfunc | exact .nilif | exact .nilmap | (constructor <;> assumption)) .nil
theorem rep_oneCell {v : Value} {d : D} (r : Rep κ w v d) (hd : cellOk d = true) : v.oneCell' = true ∧ v.cells = #[v] := by
 cases r <;> first | (simp [cellOk] at hd; done) | exact ⟨rfl, rfl⟩
end Go.Proofs.YtpagdhbmbnoddaaGreatDoor.Zz
namespace Go.Proofs.YtpagdhbmbnoddaaGreatDoor.Zz
variable {P : Program} {κ : Kap} {w : World}
def Val (P : Program) (κ : Kap) (w : World) (s : Sem Next) (d : D) : Prop := ∃ v, s.run P w = .ok (.value v) w ∧ Rep κ w v d
theorem Val.of {s : Sem Value} {v : Value} {d : D} (hs : s.run P w = .ok v w) (r : Rep κ w v d) : Val P κ w (do let x ← s; pure (Next.value x)) d :=
  ⟨v, by simp only [Sem.run_bind, hs, Result.andThen, Sem.run_pure], r⟩
theorem intEv_sound {op : BinOp} {k : IntKind} {x y : Int} {d : D} (e : intEv op k x y = some d) (h1 : op ≠ .shl) (h2 : op ≠ .shr) (t : TypeId) :
    ∃ v, (binOp op t (.int k x) (.int k y)).run P w = .ok v w ∧ Rep κ w v d := by
  cases op <;> simp only [intEv, Option.some.injEq, reduceCtorEq] at e
  all_goals first
    | (subst e; exact ⟨_, by simp only [binOp_add, binOp_sub, binOp_mul, binOp_and, binOp_or, binOp_xor, binOp_andNot, binOp_eql, binOp_neq, binOp_lss, binOp_leq, binOp_gtr, binOp_geq]; rfl, by constructor⟩)
    | (split at e
       · cases e
       · rename_i hy; cases e; exact ⟨_, by simp [binOp, Op.intDiv, hy]; rfl, by constructor⟩)
    | (exact absurd rfl h1)
    | (exact absurd rfl h2)
theorem shEv_sound {op : BinOp} {k k' : IntKind} {x y : Int} {d : D} (e : shEv op k x y = some d) (t : TypeId) :
    ∃ v, (binOp op t (.int k x) (.int k' y)).run P w = .ok v w ∧ Rep κ w v d := by
  unfold shEv at e
  split at e
  · cases e
  · rename_i hy
    cases op <;> simp only [Option.some.injEq, reduceCtorEq] at e
    all_goals (subst e; exact ⟨_, by simp [binOp, Op.shift, hy]; rfl, by constructor⟩)
theorem toList_mk (l : List UInt8) : (⟨l.toArray⟩ : ByteArray).toList = l := by simp
theorem size_mk (l : List UInt8) : (⟨l.toArray⟩ : ByteArray).size = l.length := by simp [ByteArray.size]
theorem mk_append (a b : List UInt8) : (⟨a.toArray⟩ ++ ⟨b.toArray⟩ : ByteArray) = ⟨(a ++ b).toArray⟩ := by
  apply ByteArray.ext
  simp
theorem strEv_sound {op : BinOp} {x y : List UInt8} {d : D} (e : strEv op x y = some d) (t : TypeId) :
    ∃ v, (binOp op t (.string ⟨x.toArray⟩) (.string ⟨y.toArray⟩)).run P w = .ok v w ∧ Rep κ w v d := by
  cases op <;> simp only [strEv, Option.some.injEq, reduceCtorEq] at e
  all_goals first
    | (subst e; exact ⟨_, by simp only [binOp, Op.stringOp, toList_mk]; rfl, by constructor⟩)
    | skip
  split at e
  · rename_i hl
    cases e
    refine ⟨.string ⟨(x ++ y).toArray⟩, ?_, .str _ (by simpa using hl)⟩
    have h1 : ¬ (9223372036854775807 < (x.length : Int) + (y.length : Int)) := by omega
    simp only [binOp, Op.stringOp, size_mk, IntKind.max_i64, mk_append]
    rw [if_neg (by push_cast; omega)]
    rfl
  · cases e
theorem eqGuard_prim {op : BinOp} {t : TypeId} {x y : Operand} {u v : Value} (hu : (∀ c, u ≠ .agg c) ∧ u ≠ .nilIface) : eqGuard op t x y u v = pure () := by
  unfold eqGuard
  cases op <;> try rfl
  all_goals
    simp only [Bool.not_true, Bool.false_eq_true, if_false, Bool.not_eq_true']
    split
    · exact absurd rfl hu.2
    · exact absurd rfl (hu.1 _)
    · rfl
theorem fltEv_sound {op : BinOp} {k : FloatKind} {x y : Nat} {d : D} (e : fltEv op k x y = some d) (t : TypeId) :
    ∃ v, (binOp op t (.float k x) (.float k y)).run P w = .ok v w ∧ Rep κ w v d := by
  cases op <;> simp only [fltEv, Option.some.injEq, reduceCtorEq] at e
  all_goals (subst e; exact ⟨_, by simp only [binOp, Op.floatCmp, ne_eq, not_true_eq_false, if_false]; rfl, by constructor⟩)
theorem binEv_sound {op : BinOp} {u v : Value} {x y d : D} (hu : Rep κ w u x) (hv : Rep κ w v y) (e : binEv op x y = some d) (t : TypeId) (p q : Operand) :
    ∃ r, (do eqGuard op t p q u v; binOp op t u v).run P w = .ok r w ∧ Rep κ w r d := by
  unfold binEv at e
  split at e
  · rename_i k x k' y
    cases hu; cases hv
    rw [eqGuard_prim ⟨fun _ => by simp, by simp⟩]
    simp only [pure_bind]
    split at e
    · exact shEv_sound e t
    · exact shEv_sound e t
    · rename_i h1 h2
      split at e
      · rename_i hk
        subst hk
        exact intEv_sound e h1 h2 t
      · cases e
  · cases hu; cases hv
    rw [eqGuard_prim ⟨fun _ => by simp, by simp⟩]
    simp only [pure_bind]
    exact strEv_sound e t
  · cases hu; cases hv
    rw [eqGuard_prim ⟨fun _ => by simp, by simp⟩]
    simp only [pure_bind]
    split at e
    · rename_i hk
      subst hk
      exact fltEv_sound e t
    · cases e
  · cases e
theorem unEv_sound {op : UnOp} {u : Value} {x d : D} (hu : Rep κ w u x) (e : unEv op x = some d) : ∃ r, (Op.unary op u).run P w = .ok r w ∧ Rep κ w r d := by
  unfold unEv at e
  split at e
  · cases hu
    cases op <;> simp only [Option.some.injEq, reduceCtorEq] at e
    all_goals (subst e; exact ⟨_, rfl, by constructor⟩)
  · cases hu
    cases op <;> simp only [Option.some.injEq, reduceCtorEq] at e
    all_goals (subst e; exact ⟨_, rfl, by constructor⟩)
  · cases hu
    cases op <;> simp only [Option.some.injEq, reduceCtorEq] at e
    all_goals (subst e; exact ⟨_, rfl, by constructor⟩)
  · cases e
theorem add_off (b o k : Nat) : (⟨b, o, none⟩ : Addr).add k = ⟨b, o + k, none⟩ := by
  unfold Addr.add
  split <;> simp_all
theorem partD_sound {cs : Array Value} {ds : List D} (h : RepL κ w cs.toList ds) {t : TypeId} {off : Nat} {k : Option Nat} {d : D} (hs : shapeOf P t = some k) (e : partD ds off k = some d) :
    ∃ v, (part t cs off).run P w = .ok v w ∧ Rep κ w v d := by
  cases k with
  | none =>
    obtain ⟨h1, _⟩ := run_isAgg_none hs w
    simp only [partD] at e
    obtain ⟨v, hv, r⟩ := h.get off d e
    have hv' : cs[off]? = some v := by simpa using hv
    exact ⟨v, by simp [part, h1, hv'], r⟩
  | some n =>
    obtain ⟨h1, h2⟩ := run_isAgg_some hs w
    simp only [partD] at e
    split at e
    · rename_i hl
      cases e
      refine ⟨.agg (cs.extract off (off + n)), by simp [part, h1, run_sizeOf h2], RepL.agg ?_⟩
      refine RepL.of_get ?_ fun i d hd => ?_
      · have := h.length
        simp at this ⊢
        omega
      · rw [List.getElem?_take] at hd
        split at hd
        · rename_i hi
          rw [List.getElem?_drop] at hd
          obtain ⟨v, hv, r⟩ := h.get _ _ hd
          refine ⟨v, ?_, r⟩
          have hv' : cs[off + i]? = some v := by simpa using hv
          have hlt := (Array.getElem?_eq_some_iff.1 hv').1
          simp only [Array.toList_extract, List.extract_eq_take_drop]
          rw [List.getElem?_take, if_pos (by omega), List.getElem?_drop]
          exact hv
        · cases hd
    · cases e
end Go.Proofs.YtpagdhbmbnoddaaGreatDoor.Zz
