/- Frames; the compact form of code; what each instruction asks. -/
import Derived.Laws.FloatArith
import Derived.RangeFuncLeaves
import Derived.OrdersIn
import Derived.RangeFuncIn
import Derived.Test.YtpklkpkfgmoghaaGreatDoorZB
import Derived.Laws.Entries
import Derived.Laws.Cells
set_option linter.unnecessarySimpa false
set_option linter.unusedVariables false
set_option linter.unusedSimpArgs false
namespace Go.Proofs.YtpklkpkfgmoghaaGreatDoor.Zz
structure lg where
 fn:Fn
 cap:List D
 args:List D
structure Fr where
 env:Nat→D
 defs:List lg
def Fr.put (σ:Fr) (d:Option Nat) (x:D):Fr:=
 match d with
 | some t=>{ σ with env:=fun i=>if i=t then x else σ.env i }
 | none=>σ
def Fr.forget (σ:Fr):Fr:={ env:=fun _=>.undef,defs:=σ.defs }
@[simp] theorem Fr.nR (σ:Fr) (t:Nat) (x:D) (i:Nat):(σ.put (some t) x).env i=if i=t then x else σ.env i:=rfl
@[simp] theorem Fr.DI (σ:Fr) (x:D):σ.put none x=σ:=rfl
@[simp] theorem Fr.DH (σ:Fr) (d:Option Nat) (x:D):(σ.put d x).defs=σ.defs:=by cases d<;>rfl
@[simp] theorem Fr.Tg (σ:Fr):σ.forget.defs=σ.defs:=rfl
@[simp] theorem Fr.U4 (σ:Fr) (d:Option Nat) (x:D):(σ.put d x).forget=σ.forget:=by simp [Fr.forget]
theorem Fr.ext {σ τ:Fr} (h1:∀i,σ.env i=τ.env i) (h2:σ.defs=τ.defs):σ=τ:=by
 cases σ; cases τ
 simp only [Fr.mk.injEq]
 exact ⟨funext h1,h2⟩
def gK:List (Nat×D)→Nat→D
 | [],_=>.undef
 | (j,d)::l,i=>if i=j then d else gK l i
def Bc (l:List (Nat×D)):Fr:={ env:=gK l,defs:=[] }
def y_ (l:List (Nat×D)) (ds:List lg):Fr:={ env:=gK l,defs:=ds }
inductive fS where
 | t (n:Nat)
 | c (d:D)
 | f (k:Nat)
def Fr.ev (σ:Fr):fS→D
 | .t n=>σ.env n
 | .c d=>d
 | .f k=>.func (.func k) [] []
inductive ET where
 | bool | ptr | slnil | ace | uE
 | iface
 | struct (fs:List (Nat×ET))   -- offsets of fields that count, one cell each
 | RT
 | array (n:Nat) (e:ET)
inductive CK where
 | nw (k:IntKind) | qD | vx (k:IntKind) | jy | dM | same | pN
 deriving DecidableEq
inductive SK where
 | str | sl (sz:Nat) | arr (n:Nat)
inductive LK where
 | str | sl | arr (n:Nat) | map
inductive bG (α:Type) where
 | cg (x:α)
 | pick (c a b:α)
 | alloc (ds:List D)
 | box (x:α)
 | build (zs:List D) (parts:List (Nat×Nat×α))
 | buildSlice (sz:Nat) (zs:List D) (len:Nat) (parts:List (Nat×α)) (uW:Bool)
 | load (n:Option Nat) (x:α)
 | cK (n:Option Nat) (x b:α)
 | lG (f:FuncId)
 | store (n:Nat) (x v:α)
 | storeNe (n:Nat) (x v:α) (ys:List α)
 | nilCheck (x:α)
 | bin (op:BinOp) (x y:α)
 | iQ (op:BinOp) (x y:α)
 | eql (t:ET) (neg:Bool) (x y:α)
 | un (op:UnOp) (x:α)
 | conv (c:CK) (x:α)
 | uV (n:Nat) (x:α)
 | slice (k:SK) (x:α) (lo hi mx:Option α)
 | fieldAddr (off:Nat) (x:α)
 | field (off:Nat) (n:Option Nat) (x:α)
 | fB (len sz:Nat) (x i:α)
 | aY (sz:Nat) (x i:α)
 | r8 (len sz:Nat) (n:Option Nat) (x i:α)
 | hU (x i:α)
 | extract (x:α) (i:Nat)
 | l_ (t:TypeId) (x:α)
 | mkFunc (fn:Fn) (first cap:List α)
 | len (k:LK) (x:α)
 | pR (k:LK) (x:α)
 | nG (mx:Bool) (x y:α)
 | append (sz bytes:Nat) (str:Bool) (s x:α)
 | makeSlice (sz bytes:Nat) (zs:List D) (len cap:α)
 | call (f:α) (args:List α)
 | callR (f:α) (args:List α)
 | callNe (f:α) (args ys:List α)
 | appendA (sz bytes:Nat) (str:Bool) (s x:α) (ys:List α)
 | kq (n:Nat) (x v:α)
 | ik (n:Nat) (x v:α)
 | qcall (f:α) (args:List α)
 | panic (x:α)
 | defer (f:α) (args:List α)
 | typeAssert (t:TypeId) (ok:Bool) (zs:D) (x:α)
 | makeMap
 | lookup (z:D) (ok:Bool) (m k:α)
 | mapUpdate (m k v:α)
 | delete (m k:α)
 | isNil (neg:Bool) (x:α)
 | my (x:α)
 | pB (x:α)
def bG.map {α β:Type} (g:α→β):bG α→bG β
 | .cg x=>.cg (g x)
 | .pick c a b=>.pick (g c) (g a) (g b)
 | .alloc ds=>.alloc ds
 | .box x=>.box (g x)
 | .build zs ps=>.build zs (ps.map fun p=>(p.1,p.2.1,g p.2.2))
 | .buildSlice sz zs n ps r=>.buildSlice sz zs n (ps.map fun p=>(p.1,g p.2)) r
 | .load n x=>.load n (g x)
 | .cK n x b=>.cK n (g x) (g b)
 | .lG f=>.lG f
 | .store n x v=>.store n (g x) (g v)
 | .storeNe n x v ys=>.storeNe n (g x) (g v) (ys.map g)
 | .nilCheck x=>.nilCheck (g x)
 | .bin op x y=>.bin op (g x) (g y)
 | .iQ op x y=>.iQ op (g x) (g y)
 | .eql t n x y=>.eql t n (g x) (g y)
 | .un op x=>.un op (g x)
 | .conv c x=>.conv c (g x)
 | .uV n x=>.uV n (g x)
 | .slice k x lo hi mx=>.slice k (g x) (lo.map g) (hi.map g) (mx.map g)
 | .fieldAddr o x=>.fieldAddr o (g x)
 | .field o n x=>.field o n (g x)
 | .fB l s x i=>.fB l s (g x) (g i)
 | .aY s x i=>.aY s (g x) (g i)
 | .r8 l s n x i=>.r8 l s n (g x) (g i)
 | .hU x i=>.hU (g x) (g i)
 | .extract x i=>.extract (g x) i
 | .l_ t x=>.l_ t (g x)
 | .mkFunc fn a b=>.mkFunc fn (a.map g) (b.map g)
 | .len k x=>.len k (g x)
 | .pR k x=>.pR k (g x)
 | .nG m x y=>.nG m (g x) (g y)
 | .append sz b t s x=>.append sz b t (g s) (g x)
 | .makeSlice sz b zs l c=>.makeSlice sz b zs (g l) (g c)
 | .call f as=>.call (g f) (as.map g)
 | .callR f as=>.callR (g f) (as.map g)
 | .callNe f as ys=>.callNe (g f) (as.map g) (ys.map g)
 | .appendA sz b t s x ys=>.appendA sz b t (g s) (g x) (ys.map g)
 | .kq n x v=>.kq n (g x) (g v)
 | .ik n x v=>.ik n (g x) (g v)
 | .qcall f as=>.qcall (g f) (as.map g)
 | .panic x=>.panic (g x)
 | .defer f as=>.defer (g f) (as.map g)
 | .typeAssert t ok z x=>.typeAssert t ok z (g x)
 | .makeMap=>.makeMap
 | .lookup z ok m k=>.lookup z ok (g m) (g k)
 | .mapUpdate m k v=>.mapUpdate (g m) (g k) (g v)
 | .delete m k=>.delete (g m) (g k)
 | .isNil n x=>.isNil n (g x)
 | .my x=>.my (g x)
 | .pB x=>.pB (g x)
def dP (op:BinOp) (k:IntKind) (x y:Int):Option D:=
 match op with
 | .add=>some (.int k (k.wrap (x+y)))
 | .sub=>some (.int k (k.wrap (x - y)))
 | .mul=>some (.int k (k.wrap (x*y)))
 | .quo=>if y=0 then none else some (.int k (k.wrap (x.tdiv y)))
 | .rem=>if y=0 then none else some (.int k (x.tmod y))
 | .and=>some (.int k (k.wrap (BitVec.ofInt k.bits x &&& BitVec.ofInt k.bits y).toNat))
 | .or=>some (.int k (k.wrap (BitVec.ofInt k.bits x ||| BitVec.ofInt k.bits y).toNat))
 | .xor=>some (.int k (k.wrap (BitVec.ofInt k.bits x ^^^ BitVec.ofInt k.bits y).toNat))
 | .andNot=>some (.int k (k.wrap (BitVec.ofInt k.bits x &&& ~~~ BitVec.ofInt k.bits y).toNat))
 | .eql=>some (.bool (x==y))
 | .neq=>some (.bool (x != y))
 | .lss=>some (.bool (decide (x<y)))
 | .leq=>some (.bool (decide (x≤y)))
 | .gtr=>some (.bool (decide (x>y)))
 | .geq=>some (.bool (decide (x≥y)))
 | _=>none
def xQ (op:BinOp) (k:IntKind) (x y:Int):Option D:=
 if y<0 then none else
 match op with
 | .shl=>some (.int k (k.wrap (x*2 ^ (min y.toNat k.bits))))
 | .shr=>some (.int k (x.fdiv (2 ^ (min y.toNat k.bits))))
 | _=>none
def gX (op:BinOp) (a b:List UInt8):Option D:=
 match op with
 | .add=>if a.length+b.length≤9223372036854775807 then some (.str (a++b)) else none
 | .eql=>some (.bool (a==b))
 | .neq=>some (.bool (!(a==b)))
 | .lss=>some (.bool (Op.bytesLess a b))
 | .leq=>some (.bool (Op.bytesLess a b || a==b))
 | .gtr=>some (.bool (!(Op.bytesLess a b || a==b)))
 | .geq=>some (.bool (!(Op.bytesLess a b)))
 | _=>none
def jj (op:BinOp) (k:FloatKind) (a b:Nat):Option D:=
 match op with
 | .eql=>some (.bool (k.format.order a b==some .eq))
 | .neq=>some (.bool (k.format.order a b != some .eq))
 | .lss=>some (.bool (k.format.order a b==some .lt))
 | .leq=>some (.bool (k.format.order a b==some .lt || k.format.order a b==some .eq))
 | .gtr=>some (.bool (k.format.order a b==some .gt))
 | .geq=>some (.bool (k.format.order a b==some .gt || k.format.order a b==some .eq))
 | _=>none
def jJ (op:BinOp):D→D→Option D
 | .int k a,.int k' b=>match op with
  | .shl=>xQ .shl k a b
  | .shr=>xQ .shr k a b
  | _=>if k=k' then dP op k a b else none
 | .str a,.str b=>gX op a b
 | .float k a,.float k' b=>if k=k' then jj op k a b else none
 | _,_=>none
def lX (op:UnOp):D→Option D
 | .int k n=>match op with
  | .neg=>some (.int k (k.wrap (0 - n)))
  | .xor=>some (.int k (k.wrap (BitVec.ofInt k.bits (if k.signed then -1 else k.max) ^^^ BitVec.ofInt k.bits n).toNat))
  | _=>none
 | .bool b=>match op with
  | .not=>some (.bool (!b))
  | _=>none
 | .float k b=>match op with
  | .neg=>some (.float k (Op.negFloat k b))
  | _=>none
 | _=>none
def cellsD:D→List D
 | .agg ds=>ds
 | d=>[d]
def bY:D→Bool
 | .undef | .agg _ | .tuple _=>false
 | _=>true
def setAt (cs:List D) (off:Nat):List D→List D
 | []=>cs
 | d::ds=>setAt (cs.set off d) (off+1) ds
def gn (ds:List D) (off:Nat):Option Nat→Option D
 | none=>ds[off]?
 | some n=>if off+n≤ds.length then some (.agg ((ds.drop off).take n)) else none
def g_ (zs:List D):List (Nat×Nat×D)→Option (List D)
 | []=>some zs
 | (off,sz,d)::ps=>if (cellsD d).length=sz∧off+sz≤zs.length∧(cellsD d).all bY=true then g_ (setAt zs off (cellsD d)) ps else none
def rowsOf (sz:Nat) (zs:List D) (n:Nat):List (List D):=List.replicate n zs
def d_ (sz:Nat):List (List D)→List (Nat×D)→Option (List (List D))
 | xs,[]=>some xs
 | xs,(i,d)::ps=>if (cellsD d).length=sz∧i<xs.length∧(cellsD d).all bY=true then d_ sz (xs.set i (cellsD d)) ps else none
def eT:D→D
 | .a_=>.sl []
 | d=>d
def isNil:D→Bool
 | .a_=>true
 | _=>false
def pr (zs:List D) (xs:List (List D)):List (List D):=bif zs.any isNil then xs.map (List.map eT) else xs
def byteOf:List D→UInt8
 | [.int _ n]=>UInt8.ofNat n.toNat
 | _=>0
def isByte:List D→Bool
 | [.int .u8 _]=>true
 | _=>false
def eF (s:List UInt8):List (List D):=s.map fun b=>[.int .u8 (b.toNat:Int)]
def cG (h:aa):D→Option (List (List D))
 | .a_=>some []
 | .sl xs=>some xs
 | .row r aP off len=>match h.f r with
  | some (.row sz bR xs fz)=>if aP=bR∧off+len≤xs.length then some ((xs.drop off).take len) else none
  | _=>none
 | .rL id off len=>match h.f id with
  | some (.cells ds)=>if off+len≤ds.length then some (((ds.drop off).take len).map fun d=>[d]) else none
  | _=>none
 | _=>none
def plain (h:aa):D→D
 | .a_=>.sl []
 | .row r aP off len=>match h.f r with
  | some (.row sz bR xs fz)=>if aP=bR∧off+len≤xs.length then .sl ((xs.drop off).take len) else .undef
  | _=>.undef
 | .agg ds=>.agg (ds.map fun d=>match d with
   | .a_=>.sl []
   | .row r aP off len=>match h.f r with
    | some (.row sz bR xs fz)=>if aP=bR∧off+len≤xs.length then .sl ((xs.drop off).take len) else .undef
    | _=>.undef
   | d=>d)
 | d=>d
def ee (h:aa) (r:Nat):aa:=
 match h.f r with
 | some (.row sz aP xs _)=>h.set r (.row sz aP xs true)
 | _=>h
def fA (h:aa):D→aa
 | .row r _ _ _=>ee h r
 | .agg ds=>ds.foldl (fun h d=>match d with | .row r _ _ _=>ee h r | _=>h) h
 | _=>h
def eV (h:aa) (ds:List D):aa:=ds.foldl fA h
def eA (h:aa) (n:Option Nat):D→Option D
 | .ptr id aP off=>match h.f id with
  | some (.cells ds)=>if aP=1 then gn ds off n else none
  | _=>none
 | .cU cells off=>gn cells off n
 | .eC r aP i f=>match h.f r with
  | some (.row sz bR xs fz)=>if aP=bR then (match xs[i]? with | some x=>gn x f n | none=>none) else none
  | some (.fW sz bR xs fU)=>if aP=bR then (match xs[i]? with | some x=>gn x f n | none=>none) else none
  | _=>none
 | _=>none
def fj (h:aa) (n:Nat) (a v:D):Option aa:=
 if (cellsD v).length=n∧(cellsD v).all bY=true then
  match a with
  | .ptr id aP off=>match h.f id with
   | some (.cells ds)=>if aP=1∧off+n≤ds.length then some (h.set id (.cells (setAt ds off (cellsD v)))) else none
   | _=>none
  | .eC r aP i f=>match h.f r with
   | some (.row sz bR xs false)=>if aP=bR then (match xs[i]? with | some x=>if f+n≤x.length then some (h.set r (.row sz bR (xs.set i (setAt x f (cellsD v))) false)) else none | none=>none) else none
   | _=>none
  | _=>none
 else none
def fZ (x y:D):Bool:=
 match x,y with
 | .ptr i _ _,.ptr j _ _ | .ptr i _ _,.eC j _ _ _ | .eC i _ _ _,.ptr j _ _ | .eC i _ _ _,.eC j _ _ _=> !(i==j)
 | _,.cU .. =>true
 | _,_=>false
def dZ (x y:D):Bool:=
 match x,y with
 | .cU ..,_=>true
 | .ptr i _ _,.ptr j _ _ | .ptr i _ _,.eC j _ _ _ | .eC i _ _ _,.ptr j _ _ | .eC i _ _ _,.eC j _ _ _=>i==j
 | _,_=>false
def nA:D→Option Int
 | .int _ n=>some n
 | _=>none
def bounds (n:Nat) (lo hi:Option D):Option (Nat×Nat):=
 match (match lo with | none=>some 0 | some d=>nA d),(match hi with | none=>some (n:Int) | some d=>nA d) with
 | some l,some u=>if 0≤l∧l≤u∧u≤n then some (l.toNat,u.toNat) else none
 | _,_=>none
def ij (k:SK) (x:D) (lo hi mx:Option D):Option D:=
 match mx with
 | some _=>none
 | none=>
  match k,x with
  | .str,.str s=>(bounds s.length lo hi).map fun b=>.str ((s.drop b.1).take (b.2 - b.1))
  | .sl sz,.sl xs=>if ∀y∈xs,y.length=sz then (bounds xs.length lo hi).map fun b=>.sl ((xs.drop b.1).take (b.2 - b.1)) else none
  | .arr n,.ptr id aP off=>if aP=1∧n≤9223372036854775807 then (bounds n lo hi).map fun b=>.rL id (off+b.1) (b.2 - b.1) else none
  | _,_=>none
def vr:List D→List D→Option Bool
 | [],[]=>some true
 | .int k a::xs,.int k' b::ys=>if k=k' then (if a==b then vr xs ys else some false) else none
 | _,_=>none
def iE:ET→D→D→Option Bool
 | .bool,.bool a,.bool b=>some (a==b)
 | .ptr,.fY,.fY=>some true
 | .ptr,.ptr ..,.fY=>some false
 | .ptr,.fY,.ptr .. =>some false
 | .slnil,.a_,.a_=>some true
 | .uE,.func ..,.eK=>some false
 | .uE,.eK,.eK=>some true
 | .iface,.fL,.fL=>some true
 | .iface,.iface ..,.fL=>some false
 | .iface,.fL,.iface .. =>some false
 | .array n .RT,.agg a,.agg b=>if a.length=n∧b.length=n then vr a b else none
 | _,_,_=>none
def bh:bG D→Option D
 | .cg x=>some x
 | .build zs ps=>(g_ zs ps).map .agg
 | .nilCheck x=>match x with
  | .ptr .. | .cU .. | .eC .. | .func (.func _) _ _=>some x
  | _=>none
 | .bin op x y=>jJ op x y
 | .eql t neg x y=>(iE t x y).map fun b=>.bool (if neg then !b else b)
 | .un op x=>lX op x
 | .conv c x=>match c,x with
  | .nw k,.int _ n=>some (.int k (k.wrap n))
  | .qD,.int _ n=>some (.float .f64 (FloatKind.f64.nearest n))
  | .same,.str s=>some (.str s)
  | .vx k,.float .f64 b=>(floatToIntVal .f64 b k).map (.int k)
  | .pN,.float .f64 b=>some (.float .f64 b)
  | _,_=>none
 | .uV n x=>match x with
  | .rL id off len=>if 0<n∧n≤len then some (.ptr id 1 off) else none
  | _=>none
 | .slice k x lo hi mx=>ij k x lo hi mx
 | .fieldAddr o x=>match x with
  | .ptr id aP off=>some (.ptr id aP (off+o))
  | .cU cs off=>some (.cU cs (off+o))
  | .eC r aP i f=>some (.eC r aP i (f+o))
  | _=>none
 | .field o n x=>match x with
  | .agg ds=>gn ds o n
  | _=>none
 | .fB len sz x i=>match x,i with
  | .ptr id aP off,.int _ i=>if 0≤i∧i<len then some (.ptr id aP (off+i.toNat*sz)) else none
  | .cU cs off,.int _ i=>if 0≤i∧i<len then some (.cU cs (off+i.toNat*sz)) else none
  | .eC r aP j f,.int _ i=>if 0≤i∧i<len then some (.eC r aP j (f+i.toNat*sz)) else none
  | _,_=>none
 | .aY sz x i=>match x,i with
  | .sl xs,.int _ i=>if 0≤i then (match xs[i.toNat]? with | some x=>if x.length=sz then some (.cU x 0) else none | none=>none) else none
  | .rL id off len,.int _ i=>if 0≤i∧i<len∧sz=1 then some (.ptr id 1 (off+i.toNat)) else none
  | _,_=>none
 | .r8 len sz n x i=>match x,i with
  | .agg ds,.int _ i=>if 0≤i∧i<len then gn ds (i.toNat*sz) n else none
  | _,_=>none
 | .hU x i=>match x,i with
  | .str s,.int _ i=>if 0≤i then (match s[i.toNat]? with | some b=>some (.int .u8 (b.toNat:Int)) | none=>none) else none
  | _,_=>none
 | .extract x i=>match x with
  | .tuple ds=>ds[i]?
  | _=>none
 | .l_ t x=>some (.iface t x)
 | .mkFunc fn a b=>some (.func fn a b)
 | .nG mx x y=>match x,y with
  | .int k a,.int _ b=>some (.int k (if mx then (if a<b then b else a) else (if b<a then b else a)))
  | _,_=>none
 | _=>none
def cC (h:aa):bG D→Option D
 | .load n x=>eA h n x
 | .conv c x=>match c with
  | .dM=>match cG h x with
   | some xs=>if xs.all isByte=true then some (.str (xs.map byteOf)) else none
   | none=>none
  | _=>none
 | .slice k x lo hi mx=>match k,x,mx with
  | .sl sz,.row r aP off len,none=>match h.f r with
   | some (.row gM bR xs fz)=>if gM=sz∧bR=aP then (bounds len lo hi).map fun b=>.row r aP (off+b.1) (b.2 - b.1) else none
   | _=>none
  | _,_,_=>none
 | .aY sz x i=>match x,i with
  | .row r aP off len,.int _ i=>match h.f r with
   | some (.row gM bR xs fz)=>if gM=sz∧bR=aP∧0≤i∧i<len then some (.eC r aP (off+i.toNat) 0) else none
   | some (.fW gM bR xs fU)=>if gM=sz∧bR=aP∧0≤i∧i<len then some (.eC r aP (off+i.toNat) 0) else none
   | _=>none
  | _,_=>none
 | _=>none
inductive dn where
 | ret (d:D)
 | panic (d:D)
inductive jB (κ:b9) (w:World):dn→Ending→Prop
 | ret {d:D} {v:Value} (h:bX κ w v d):jB κ w (.ret d) (.returned v)
 | panic {d:D} {v:Value} (h:bX κ w v d):jB κ w (.panic d) (.panicked [{ v,recovered:=false }])
inductive bJ (κ:b9) (w:World):List Value→List D→Prop
 | nil:bJ κ w [] []
 | cons {v:Value} {d:D} {vs:List Value} {ds:List D} (h:bX κ w v d) (t:bJ κ w vs ds):bJ κ w (v::vs) (d::ds)
def eY (P:Program) (f:FuncId):Bool:=
 match P.funcs[f]? with
 | some fn=> !(fn.name== "runtime.NumGoroutine") && fn.body.isSome
 | none=>false
def dn.to (K:D→aa→Prop) (E:D→aa→Prop):dn→aa→Prop
 | .ret d,h=>K d h
 | .panic d,h=>E d h
def aO [aL] (P:Program) (f:FuncId) (args:List D) (h:aa) (R:dn→aa→Prop):Prop:=
 eY P f=true∧∀(κ:b9) (w:World) (vs:Array Value),Inv κ h w→bJ κ w vs.toList args→
  Calls P f vs w fun e w'=>∃o h' κ',R o h'∧jB κ' w' o e∧Inv κ' h' w'∧Ev κ h w κ' h' w'
def aM [aL] (P:Program) (f:FuncId) (args:List D) (d:D):Prop:=aO P f args .emp fun o _=>o=.ret d
structure bf where
 q:FuncId→List D→Option D
 a:FuncId→Option (List D)
 c:FuncId→List D→aa→(D→aa→Prop)→(D→aa→Prop)→Prop
 mono:∀f args h (K E K' E':D→aa→Prop),(∀d h,K d h→K' d h)→(∀d h,E d h→E' d h)→c f args h K E→c f args h K' E'
 y:Nat→List D→aa→(D→aa→Prop)→Prop
 aaC:∀l args h (K K':D→aa→Prop),(∀d h,K d h→K' d h)→y l args h K→y l args h K'
 r:FuncId→Nat→(List D→aa→(D→aa→Prop)→Prop)→List D→aa→(D→aa→Prop)→Prop
 Zg:∀f l Y Y' args h (K K':D→aa→Prop),(∀args h (K K':D→aa→Prop),(∀d h,K d h→K' d h)→Y args h K→Y' args h K')→(∀d h,K d h→K' d h)→r f l Y args h K→r f l Y' args h K'
def cA [aL] (P:Program) (κ:b9) (w:World) (f:FuncId) (args:List D) (h:aa) (R:dn→aa→Prop):Prop:=
 eY P f=true∧∀(vs:Array Value),Inv κ h w→bJ κ w vs.toList args→
  Calls P f vs w fun e w'=>∃o h' κ',R o h'∧jB κ' w' o e∧Inv κ' h' w'∧Ev κ h w κ' h' w'
def Fw [aL] (P:Program) (κ:b9) (w:World) (l:Nat) (args:List D) (h:aa) (K:D→aa→Prop):Prop:=
 ∀(vs:Array Value),Inv κ h w→bJ κ w vs.toList args→
  ∃f tmps assign body,(Instr.yield l vs).run P w=.ok (.round l f tmps assign body) w∧
   RoundIn Fence.wide 0 P l f tmps assign body w fun e w'=>∃o h' κ',dn.to K (fun _ _=>False) o h'∧jB κ' w' o e∧Inv κ' h' w'∧Ev κ h w κ' h' w'
def S2 (Y:List D→aa→(D→aa→Prop)→Prop):Prop:=∀args h (K K':D→aa→Prop),(∀d h,K d h→K' d h)→Y args h K→Y args h K'
def uS (P:Program) (f:FuncId) (args:List D) (d:D):Prop:=∀(κ:b9) (w:World) (vs:Array Value),bJ κ w vs.toList args→∃v,(callFunc f vs).run P w=.ok (.value v) w∧bX κ w v d
structure bf.nJ [aL] (P:Program) (κ:b9) (w:World) (T:bf):Prop where
 q:∀f args d,T.q f args=some d→aM P f args d∨uS P f args d
 a:∀f ds h,T.a f=some ds→aO P f [] h fun o h'=>∃id,h.f id=none∧o=.ret (.ptr id 1 0)∧h'=h.set id (.cells ds)
 c:∀f args h K E,T.c f args h K E→∀κ' w',Le κ w κ' w'→cA P κ' w' f args h (dn.to K E)
 y:∀l args h K,T.y l args h K→∀κ' w',Le κ w κ' w'→Fw P κ' w' l args h K
 r:∀f l Y args h K κ' w',Le κ w κ' w'→S2 Y→(∀args h K,Y args h K→∀gJ Ah,Le κ' w' gJ Ah→Fw P gJ Ah l args h K)→T.r f l Y args h K→cA P κ' w' f args h (dn.to K fun _ _=>False)
structure bf.ok [aL] (P:Program) (T:bf):Prop where
 q:∀f args d,T.q f args=some d→aM P f args d∨uS P f args d
 a:∀f ds h,T.a f=some ds→aO P f [] h fun o h'=>∃id,h.f id=none∧o=.ret (.ptr id 1 0)∧h'=h.set id (.cells ds)
 c:∀f args h K E,T.c f args h K E→aO P f args h (dn.to K E)
 y:∀l args h K,¬T.y l args h K
 r:∀f l Y args h K κ w,S2 Y→(∀args h K,Y args h K→∀κ' w',Le κ w κ' w'→Fw P κ' w' l args h K)→T.r f l Y args h K→cA P κ w f args h (dn.to K fun _ _=>False)
theorem aO.at_ [aL] {P:Program} {f:FuncId} {args:List D} {h:aa} {R:dn→aa→Prop} (c:aO P f args h R) (κ:b9) (w:World):cA P κ w f args h R:=⟨c.1,fun vs=>c.2 κ w vs⟩
theorem bf.ok.toY [aL] {P:Program} {T:bf} (hT:T.ok P) (κ:b9) (w:World):T.nJ P κ w:=
 ⟨hT.q,hT.a,fun f args h K E x κ' w' _=>(hT.c f args h K E x).at_ κ' w',fun l args h K x=>absurd x (hT.y l args h K),fun f l Y args h K κ' w' _=>hT.r f l Y args h K κ' w'⟩
theorem Le.trans {κ1 κ2 κ3:b9} {w1 w2 w3:World} (a:Le κ1 w1 κ2 w2) (b:Le κ2 w2 κ3 w3):Le κ1 w1 κ3 w3:=
 ⟨fun x hx=>⟨(b.gC x (a.gC x hx).1).1,(b.gC x (a.gC x hx).1).2.trans (a.gC x hx).2⟩,fun id p hp=>by
  obtain ⟨p',h1,h2,h3,h4⟩:=a.loc id p hp
  obtain ⟨p'',k1,k2,k3,k4⟩:=b.loc id p' h1
  refine ⟨p'',k1,Nat.le_trans h2 k2,fun e=>?_,h4.trans k4 h2 h3⟩
  have e1:p'.aP=p.aP:=by omega
  have:=h3 e1
  subst this
  exact k3 e⟩
theorem bf.nJ.mono [aL] {P:Program} {T:bf} {κ κ':b9} {w w':World} (hT:T.nJ P κ w) (le:Le κ w κ' w'):T.nJ P κ' w':=
 ⟨hT.q,hT.a,fun f args h K E x gJ Ah l=>hT.c f args h K E x gJ Ah (le.trans l),fun l args h K x gJ Ah l'=>hT.y l args h K x gJ Ah (le.trans l'),fun f l Y args h K gJ Ah l'=>hT.r f l Y args h K gJ Ah (le.trans l')⟩
def eI:BinOp→Bool
 | .add | .sub | .mul | .quo=>true
 | _=>false
def pC (h:aa) (str:Bool) (x:D):Option (List (List D)):=
 match str,x with
 | true,.str b=>some (eF b)
 | true,_=>none
 | false,x=>cG h x
def fQ (h h':aa):D→Prop
 | .ptr id _ _ | .eC id _ _ _=>h'.f id=h.f id
 | .cU .. =>True
 | _=>False
def cellAt (h:aa):D→Bool
 | .ptr id _ _=>match h.f id with
  | some (.cells _)=>true
  | _=>false
 | _=>false
def UX (h:aa):D→Option (D×aa)
 | .a_=>some (.a_,h)
 | .row r aP off len=>match h.f r with
  | some (.fW sz cur xs fU)=>if off=0 then (if aP=cur∧len=xs.length then some (.row r aP 0 len,h) else if (aP,len)∈fU then some (.row r (cur+1) 0 len,h.set r (.fW sz (cur+1) (xs.take len) (fU.filter fun e=>decide (e.1≤aP)))) else none) else none
  | _=>none
 | _=>none
def Q5 (h:aa):List D→Option (List D×aa)
 | []=>some ([],h)
 | d::ds=>match UX h d with
  | some (d',h1)=>match Q5 h1 ds with
   | some (FT,h2)=>some (d'::FT,h2)
   | none=>none
  | none=>none
def MV (h:aa):D→Option (D×aa)
 | .agg ds=>match Q5 h ds with
  | some (FT,h')=>some (.agg FT,h')
  | none=>none
 | _=>none
def pX (h:aa):D→D
 | .row r aP off len=>match h.f r with
  | some (.row sz bR xs fz)=>if aP=bR∧off+len≤xs.length then .sl (((xs.map (List.map (plain h))).drop off).take len) else .undef
  | _=>.undef
 | d=>plain h d
def AP (h:aa):D→aa
 | .row r aP off len=>match h.f r with
  | some (.row sz bR xs fz)=>(eV h xs.flatten).set r (.row sz bR (xs.map (List.map (plain h))) true)
  | _=>h
 | d=>fA h d
def scalar:D→Bool
 | .bool _ | .int .. | .float .. | .str _ | .undef=>true
 | _=>false
def fe (d:D) (h h':aa):aa:=bif scalar d then h else h'
def aa.xO (h:aa) (L:List (Nat×cI)):aa:=L.foldr (fun p h=>h.set p.1 p.2) h
def dS (T:bf) (i:bG D) (h:aa) (K:D→aa→Prop) (E:D→aa→Prop):Prop:=
 match i with
 | .pick c a b=>match c with
  | .bool c=>(c=true→K a h)∧(c=false→K b h)
  | _=>False
 | .alloc ds=>∀id,h.f id=none→K (.ptr id 1 0) (h.set id (.cells ds))
 | .box x=>(cellsD x).all bY=true∧∀id,h.f id=none→K (.ptr id 1 0) (h.set id (.cells (cellsD x)))
 | .buildSlice sz zs len ps uW=>∃xs,d_ sz (rowsOf sz zs len) ps=some xs∧
   (match uW with
    | true=>∀id,h.f id=none→K (.row id (len+2) 0 len) (h.set id (.row sz (len+2) xs false))
    | false=>K (.sl (pr zs xs)) h)
 | .load n x=>∃d,eA h n x=some d∧K d h
 | .cK n x b=>∃d,(if dZ x b=true then eA h n x else none)=some d∧K d h
 | .lG k=>∃ds,T.a k=some ds∧∀id,h.f id=none→K (.ptr id 1 0) (h.set id (.cells ds))
 | .store n x v=>∃h',fj h n x v=some h'∧K .undef h'
 | .storeNe n x v ys=>ys.all (fZ x)=true∧∃h',fj h n x v=some h'∧K .undef h'
 | .conv c x=>match c with
  | .dM=>∃d,cC h (.conv .dM x)=some d∧K d h
  | .jy=>match x with
   | .str s=>K (.sl (eF s)) h
   | _=>False
  | _=>∃d,bh i=some d∧K d h
 | .slice k x lo hi mx=>match x with
  | .row .. =>∃d,cC h (.slice k x lo hi mx)=some d∧K d h
  | _=>∃d,bh (.slice k x lo hi mx)=some d∧K d h
 | .aY sz x i=>match x with
  | .row .. =>∃d,cC h (.aY sz x i)=some d∧K d h
  | _=>∃d,bh (.aY sz x i)=some d∧K d h
 | .len k x=>match k,x with
  | .str,.str s=>s.length≤9223372036854775807→K (.int .i64 (s.length:Int)) h
  | .arr n,_=>K (.int .i64 (n:Int)) h
  | .sl,.a_=>K (.int .i64 0) h
  | .sl,.sl xs=>xs.length≤9223372036854775807→K (.int .i64 (xs.length:Int)) h
  | .sl,.row r aP off len=>len≤9223372036854775807→K (.int .i64 (len:Int)) h
  | .sl,.rL id off len=>len≤9223372036854775807→K (.int .i64 (len:Int)) h
  | _,_=>False
 | .append sz bytes str s x=>∃ys,pC h str x=some ys∧(∀y∈ys,y.length=sz∧y.all bY=true)∧0<bytes∧
   (match s with
    | .a_=>(ys=[]→K .a_ h)∧ys.length*bytes≤140737488355328∧(ys≠[]→∀id,h.f id=none→K (.row id (ys.length+2) 0 ys.length) (h.set id (.row sz (ys.length+2) ys false)))
    | .row r aP off len=>match h.f r with
     | some (.row gM bR xs false)=>aP=bR∧gM=sz∧off=0∧len=xs.length∧(xs.length+ys.length)*bytes≤140737488355328∧
       K (.row r (aP+ys.length) 0 (len+ys.length)) (h.set r (.row sz (aP+ys.length) (xs++ys) false))
     | _=>False
    | _=>False)
 | .makeSlice sz bytes zs l c=>match l,c with
  | .int _ l,.int _ c=>0≤l∧l=c∧l*bytes≤140737488355328∧zs.length=sz∧0<sz∧∀id,h.f id=none→K (.row id (l.toNat+2) 0 l.toNat) (h.set id (.row sz (l.toNat+2) (rowsOf sz zs l.toNat) false))
  | _,_=>False
 | .call f args=>match f with
  | .func (.func k) first cap=>T.c k ((first++args++cap).map (plain h)) (eV h (first++args++cap)) K E
  | .func (.yield l) first cap=>∃h1 L,eV h (first++args)=aa.xO h1 L∧(∀p∈L,h1.f p.1=none)∧
    T.y l ((first++args).map (plain h)) h1 (fun d h'=>(∀p∈L,h'.f p.1=none)→K d (h'.xO L))
  | _=>False
 | .callR f args=>match f with
  | .func (.func k) first cap=>T.c k (first++args++cap) h K E
  | _=>False
 | .callNe f args ys=>match f with
  | .func (.func k) first cap=>T.c k ((first++args++cap).map (plain h)) (eV h (first++args++cap)) (fun d h'=>(∀y∈ys,fQ h h' y)∧K d h') E
  | _=>False
 | .appendA sz bytes str s x zs=>zs.all (cellAt h)=true∧∃ys,pC h str x=some ys∧(∀y∈ys,y.length=sz∧y.all bY=true)∧0<bytes∧
   (match s with
    | .a_=>ys≠[]∧ys.length*bytes≤140737488355328∧∀id,h.f id=none→K (.row id 2 0 ys.length) (h.set id (.fW sz 2 ys []))
    | .row r aP off len=>match h.f r with
     | some (.fW gM bR xs fU)=>ys≠[]∧aP=bR∧gM=sz∧off=0∧len=xs.length∧(xs.length+ys.length)*bytes≤140737488355328∧
       K (.row r (aP+1) 0 (len+ys.length)) (h.set r (.fW sz (aP+1) (xs++ys) ((aP,len)::fU)))
     | some (.row gM bR xs false)=>aP=bR∧gM=sz∧off=0∧len=xs.length∧(xs.length+ys.length)*bytes≤140737488355328∧
       K (.row r (aP+ys.length) 0 (len+ys.length)) (h.set r (.row sz (aP+ys.length) (xs++ys) false))
     | _=>False
    | _=>False)
 | .ik n x v=>∃h',fj (AP h v) n x (pX h v)=some h'∧K .undef h'
 | .kq n x v=>match MV h v with
  | some (v',h1)=>∃h',fj h1 n x v'=some h'∧K .undef h'
  | none=>False
 | .qcall f args=>match f with
  | .func (.func k) first cap=>∃d,T.q k ((first++args++cap).map (plain h))=some d∧K d (fe d h (eV h (first++args++cap)))
  | _=>False
 | .panic x=>match x with
  | .iface t d=>E (.iface t d) h
  | _=>False
 | .iQ op x y=>match x,y with
  | .float .f64 a,.float .f64 b=>eI op=true∧(match floatBits op .f64 a b with
   | some r=>K (.float .f64 r) h
   | none=>∀r,FloatKind.f64.format.order r r=none→K (.float .f64 r) h)
  | _,_=>False
 | .isNil neg x=>match x with
  | .a_=>K (.bool (!neg)) h
  | .sl xs=>(xs=[]→K (.bool (!neg)) h)∧K (.bool neg) h
  | .row .. =>K (.bool neg) h
  | _=>False
 | .my x=>match x with
  | .str s=>∀id,h.f id=none→K (.iter id) (h.set id (.jL s 0))
  | _=>False
 | .pB x=>match x with
  | .iter id=>match h.f id with
   | some (.jL s pos)=>(pos<s.length→K (.tuple [.bool true,.int .i64 (pos:Int),.int .i32 ((Utf8.decode ⟨s.toArray⟩ pos).1:Int)]) (h.set id (.jL s (pos+(Utf8.decode ⟨s.toArray⟩ pos).2))))∧(s.length≤pos→K (.tuple [.bool false]) h)
   | _=>False
  | _=>False
 | .typeAssert t ok z x=>match x with
  | .iface t' d=>t'=t∧K (bif ok then .tuple [d,.bool true] else d) h
  | _=>False
 | .pR .. | .makeMap | .lookup .. | .mapUpdate .. | .delete .. | .defer .. =>False
 | i=>∃d,bh i=some d∧K d h
end Go.Proofs.YtpklkpkfgmoghaaGreatDoor.Zz
namespace Go.Proofs.YtpklkpkfgmoghaaGreatDoor.Zz
def Mh:Value→Option D
  | .bool b=>some (.bool b)
  | .int k n=>some (.int k n)
  | .float k b=>some (.float k b)
  | .string s=>if s.data.toList.length≤9223372036854775807 then some (.str s.data.toList) else none
  | .pointer none=>some .fY
  | .slice none 0 0=>some .a_
  | .nilIface=>some .fL
  | .nilFunc=>some .eK
  | .map none=>some .iS
  | _=>none
def Fx:List Value→Option (List D)
  | []=>some []
  | v::vs=>match Mh v,Fx vs with
    | some d,some ds=>some (d::ds)
    | _,_=>none
def Mi:Value→Option D
  | .agg cs=>(Fx cs.toList).map .agg
  | v=>Mh v
theorem BN {κ:b9} {w:World} {v:Value} {d:D} (h:Mh v=some d):bX κ w v d:=by
  unfold Mh at h
  split at h
  all_goals first
    | (cases h; done)
    | (cases h; first | exact .bool _ | exact .int _ _ | exact .float _ _ | exact .fY | exact .a_ | exact .fL | exact .eK | exact .iS)
    | (split at h
       · cases h
         rename_i s hs
         have:=bX.str (κ:=κ) (w:=w) s.data.toList hs
         simpa using this
       · cases h)
theorem BO {κ:b9} {w:World}:∀{vs:List Value} {ds:List D},Fx vs=some ds→bJ κ w vs ds
  | [],ds,h=>by simp [Fx] at h; subst h; exact .nil
  | v::vs,ds,h=>by
    simp only [Fx] at h
    split at h
    · rename_i d FT h1 h2
      cases h
      exact .cons (BN h1) (BO h2)
    · cases h
theorem bJ.length {κ:b9} {w:World} {vs:List Value} {ds:List D} (h:bJ κ w vs ds):vs.length=ds.length:=by
  induction h with
  | nil=>rfl
  | cons _ _ ih=>simp [ih]
theorem bJ.get {κ:b9} {w:World} {vs:List Value} {ds:List D} (h:bJ κ w vs ds):∀(i:Nat) (d:D),ds[i]? =some d→∃v,vs[i]? =some v∧bX κ w v d:=by
  induction h with
  | nil=>intro i d e; simp at e
  | cons a _ ih=>
    intro i d e
    cases i with
    | zero=>simp at e; subst e; exact ⟨_,by simp,a⟩
    | succ i=>simp at e; simpa using ih i d e
theorem bJ.nH {κ:b9} {w:World}:∀{vs:List Value} {ds:List D},vs.length=ds.length→(∀(i:Nat) (d:D),ds[i]? =some d→∃v,vs[i]? =some v∧bX κ w v d)→bJ κ w vs ds
  | [],[],_,_=>.nil
  | v::vs,d::ds,hl,h=>by
    obtain ⟨v',e,r⟩:=h 0 d (by simp)
    simp at e
    subst e
    exact .cons r (bJ.nH (by simpa using hl) fun i d hd=>by simpa using h (i+1) d (by simpa using hd))
  | [],_::_,hl,_=>by simp at hl
  | _::_,[],hl,_=>by simp at hl
theorem bJ.mono {κ κ':b9} {w w':World} {vs:List Value} {ds:List D} (h:bJ κ w vs ds) (le:Le κ w κ' w'):bJ κ' w' vs ds:=by
  induction h with
  | nil=>exact .nil
  | cons a _ ih=>exact .cons (a.mono le) ih
theorem bJ.append {κ:b9} {w:World} {vs us:List Value} {ds es:List D} (h:bJ κ w vs ds) (k:bJ κ w us es):bJ κ w (vs++us) (ds++es):=by
  induction h with
  | nil=>exact k
  | cons a _ ih=>exact .cons a ih
theorem bJ.agg {κ:b9} {w:World} {cs:Array Value} {ds:List D} (h:bJ κ w cs.toList ds):bX κ w (.agg cs) (.agg ds):=
  .agg (by have:=h.length; simpa using this) fun i d hd=>by
    obtain ⟨v,e,r⟩:=h.get i d hd
    have:cs.getD i (.tuple #[])=v:=by
      have e':cs[i]? =some v:=by simpa using e
      simp [Array.getD_eq_getD_getElem?,e']
    rw [this]; exact r
theorem bJ.tuple {κ:b9} {w:World} {cs:Array Value} {ds:List D} (h:bJ κ w cs.toList ds):bX κ w (.tuple cs) (.tuple ds):=
  .tuple (by have:=h.length; simpa using this) fun i d hd=>by
    obtain ⟨v,e,r⟩:=h.get i d hd
    have:cs.getD i (.tuple #[])=v:=by
      have e':cs[i]? =some v:=by simpa using e
      simp [Array.getD_eq_getD_getElem?,e']
    rw [this]; exact r
theorem bJ.gP {κ:b9} {w:World} {cs:Array Value} {ds:List D} (hs:cs.size=ds.length) (hr:∀(i:Nat) (d:D),ds[i]? =some d→bX κ w (cs.getD i (.tuple #[])) d):bJ κ w cs.toList ds:=
  bJ.nH (by simpa using hs) fun i d hd=>by
    have hi:i<cs.size:=by
      have:=(List.getElem?_eq_some_iff.1 hd).1
      omega
    have Ny:=hr i d hd
    refine ⟨cs[i],by simp [hi],?_⟩
    simpa [Array.getD,hi] using Ny
theorem BP {κ:b9} {w:World} {v:Value} {d:D} (h:Mi v=some d):bX κ w v d:=by
  unfold Mi at h
  split at h
  · rename_i cs
    cases e:Fx cs.toList with
    | none=>simp [e] at h
    | some ds=>
      simp [e] at h
      subst h
      exact (BO e).agg
  · exact BN h
def jH [aL]:Operand→Option fS
  | .tmp t=>some (.t t)
  | .const v=>(Mi v).map .c
  | .func f=>some (.f f)
  | .global g=>(aL.of g).map fun ds=>.c (.cU ds 0)
def nK [aL] (l:List Operand):Option (List fS):=l.mapM jH
def Dq [aL]:Option Operand→Option (Option fS)
  | none=>some none
  | some x=>(jH x).map some
inductive Fu (κ:b9) (w:World):Deferred→lg→Prop
  | col {r id:Nat} {p:Place} (hl:κ.loc id=some p) (hv:p.aP=1) (hb:p.blk=r):Fu κ w { target:=.collected r,args:= #[] } { fn:=.yield id,cap:=[],args:=[] }
  | mk {k:FuncId} {cap args:Array Value} {dc da:List D} (hc:bJ κ w cap.toList dc) (ha:bJ κ w args.toList da):Fu κ w { target:=.fn (.func k) cap,args:=args } { fn:=.func k,cap:=dc,args:=da }
inductive kE (κ:b9) (w:World):List Deferred→List lg→Prop
  | nil:kE κ w [] []
  | cons {d:Deferred} {e:lg} {ds:List Deferred} {es:List lg} (h:Fu κ w d e) (t:kE κ w ds es):kE κ w (d::ds) (e::es)
structure jz [aL] (κ:b9) (w:World) (σ:Fr) (n:Nat) (a:Act):Prop where
  size:a.tmps.size=n
  env:∀i,bX κ w (a.tmps.getD i undef) (σ.env i)
  defs:kE κ w a.defers σ.defs
  kz:gh κ w
theorem kE.mono {κ κ':b9} {w w':World} {a:List Deferred} {b:List lg} (h:kE κ w a b) (le:Le κ w κ' w'):kE κ' w' a b:=by
  induction h with
  | nil=>exact .nil
  | cons h _ ih=>
    cases h with
    | mk hc ha=>exact .cons (.mk (hc.mono le) (ha.mono le)) ih
    | col hl hv hb=>
      obtain ⟨p',h1,h2,h3,h4⟩:=le.loc _ _ hl
      have:=h4.one hv
      subst this
      exact .cons (.col h1 hv hb) ih
theorem jz.mono [aL] {κ κ':b9} {w w':World} {σ:Fr} {n:Nat} {a:Act} (h:jz κ w σ n a) (le:Le κ w κ' w'):jz κ' w' σ n a:=
  ⟨h.size,fun i=>(h.env i).mono le,h.defs.mono le,h.kz.mono le⟩
theorem jz.put [aL] {κ:b9} {w:World} {σ:Fr} {n:Nat} {a:Act} (h:jz κ w σ n a) (dst:Option Tmp) (hd:∀t,dst=some t→t<n) {v:Value} {d:D} (r:bX κ w v d):jz κ w (σ.put dst d) n (a.put dst v):=by
  cases dst with
  | none=>exact h
  | some t=>
    have ht:=hd t rfl
    refine ⟨by simp [Act.put,h.size],fun i=>?_,h.defs,h.kz⟩
    by_cases e:i=t
    · subst e
      have:i<a.tmps.size:=by rw [h.size]; exact ht
      simpa [Act.put,Array.getD_eq_getD_getElem?,this] using r
    · have e':t≠i:=fun x=>e x.symm
      simpa [Act.put,Array.getD_eq_getD_getElem?,Array.getElem?_setIfInBounds_ne e',e] using h.env i
theorem jz.forget [aL] {κ:b9} {w:World} {σ:Fr} {n:Nat} {a:Act} (h:jz κ w σ n a):jz κ w σ.forget n a:=⟨h.size,fun _=>.undef _,h.defs,h.kz⟩
theorem bj [aL] {κ:b9} {w:World} {σ:Fr} {n:Nat} {a:Act} (h:jz κ w σ n a) {x:Operand} {y:fS} (e:jH x=some y):bX κ w (a.eval x) (σ.ev y):=by
  cases x with
  | tmp t=>simp [jH] at e; subst e; exact h.env t
  | const v=>
    simp only [jH,Option.map_eq_some_iff] at e
    obtain ⟨d,e1,rfl⟩:=e
    exact BP e1
  | func f=>
    simp [jH] at e
    subst e
    exact .func (by rfl) (by rfl) (fun i d hd=>by simp at hd) (fun i d hd=>by simp at hd)
  | global g=>
    simp only [jH,Option.map_eq_some_iff] at e
    obtain ⟨ds,e1,rfl⟩:=e
    exact h.kz.rep e1
theorem ka [aL] {κ:b9} {w:World} {σ:Fr} {n:Nat} {a:Act} (h:jz κ w σ n a):∀{l:List Operand} {ys:List fS},nK l=some ys→bJ κ w (l.map a.eval) (ys.map σ.ev)
  | [],ys,e=>by simp [nK] at e; subst e; exact .nil
  | x::l,ys,e=>by
    simp only [nK,List.mapM_cons,Option.bind_eq_bind,Option.bind_eq_some_iff] at e
    obtain ⟨y,e1,ys',e2,e3⟩:=e
    cases e3
    exact .cons (bj h e1) (ka h e2)
def fieldsOf (P:Program) (t:TypeId):Option (Array Field):=
  match P.underlying t with
  | some (.struct fs)=>some fs
  | _=>none
def bO (P:Program) (t:TypeId):Option Nat:=(P.info? t).map (·.size)
def gB (P:Program) (t:TypeId):Option Nat:=(P.info? t).map (·.bytes)
def fG (P:Program) (t:TypeId):Option D:=(P.info? t).bind fun i=>i.zero.bind Mi
def shapeOf (P:Program) (t:TypeId):Option (Option Nat):=
  match P.underlying t,bO P t with
  | some (.struct _),some n=>some (some n)
  | some (.array _ _),some n=>some (some n)
  | some _,some n=>if n=1 then some none else none
  | _,_=>none
def nj (P:Program) (t:TypeId):Option TypeId:=
  match P.underlying t with
  | some (.slice e)=>some e
  | _=>none
def Co (P:Program) (t:TypeId):Option ET:=
  match P.underlying t with
  | some .bool=>some .bool
  | some (.pointer _)=>some .ptr
  | some (.slice _)=>some .slnil
  | some (.func _ _ _)=>some .uE
  | some (.interface _)=>some .iface
  | some (.array n e)=>match P.underlying e with
    | some (.int _)=>if P.eqGuardType P.depth t=false∧P.cellsOf e=1∧(P.info? e).isSome=true then some (.array n .RT) else none
    | _=>none
  | _=>none
def TE (P:Program) (t:TypeId):Bool:=
  match P.underlying t with
  | some (.int _) | some .string | some (.float _)=>true
  | _=>false
def Lm (P:Program) (t:TypeId) (b:fS):Bool:=
  match P.underlying t,b with
  | some (.slice _),.c .a_=>true
  | _,_=>false
def jl:Operand→Bool
  | .const _=>true
  | _=>false
def KV (P:Program) (s d:TypeId):Option CK:=
  match P.underlying s,P.underlying d with
  | some (.int _),some (.int k)=>some (.nw k)
  | some (.int _),some (.float .f64)=>some .qD
  | some (.float .f64),some (.int k)=>some (.vx k)
  | some (.float .f64),some (.float .f64)=>some .pN
  | some .string,some .string=>some .same
  | some .string,some (.slice e)=>match P.underlying e with
    | some (.int .u8)=>some .jy
    | _=>none
  | some (.slice e),some .string=>match P.underlying e with
    | some (.int .u8)=>some .dM
    | _=>none
  | _,_=>none
def partsOf [aL] (P:Program) (fs:Array Field):List (Nat×Operand)→Option (List (Nat×Nat×fS))
  | []=>some []
  | (i,x)::ps=>match fs[i]?,jH x,partsOf P fs ps with
    | some f,some y,some qs=>(bO P f.type).map fun n=>(f.offset,n,y)::qs
    | _,_,_=>none
def nN [aL] (sz:Nat):List (Nat×Operand)→Option (List (Nat×Nat×fS))
  | []=>some []
  | (i,x)::ps=>match jH x,nN sz ps with
    | some y,some qs=>some ((i*sz,sz,y)::qs)
    | _,_=>none
def nO [aL]:List (Nat×Operand)→Option (List (Nat×fS))
  | []=>some []
  | (i,x)::ps=>match jH x,nO ps with
    | some y,some qs=>some ((i,y)::qs)
    | _,_=>none
def Yw (P:Program) (t:TypeId):Bool:=
  match P.underlying t with
  | some (.float _)=>true
  | _=>false
def iF [aL] (P:Program) (uW quiet:Bool) (o:Oper):Option (bG fS):=
  match o.op with
  | .move x | .assign x=>(jH x).map .cg
  | .pick c a b=>match jH c,jH a,jH b with
    | some c,some a,some b=>some (.pick c a b)
    | _,_,_=>none
  | .alloc t=>(fG P t).map fun d=>.alloc (cellsD d)
  | .box t x=>(jH x).map .box
  | .build t ps=>match P.underlying t,fG P t with
    | some (.struct fs),some z=>if fs.toList.all (fun f=>(bO P f.type).isSome)=true then (partsOf P fs ps.toList).map fun qs=>.build (cellsD z) qs else none
    | some (.array _ e),some z=>match bO P e with
      | some sz=>(nN sz ps.toList).map fun qs=>.build (cellsD z) qs
      | none=>none
    | _,_=>none
  | .buildSlice t n ps=>match nj P t with
    | some e=>match bO P e,fG P e with
      | some sz,some z=>if n*sz≤16777216∧(cellsD z).length=sz∧0<sz then (nO ps.toList).map fun qs=>.buildSlice sz (cellsD z) n qs uW else none
      | _,_=>none
    | none=>none
  | .load t x=>match shapeOf P t,jH x with
    | some n,some y=>some (.load n y)
    | _,_=>none
  | .store t x v=>match shapeOf P t,bO P t,jH x,jH v with
    | some _,some n,some y,some u=>some (.store n y u)
    | _,_,_,_=>none
  | .nilCheck x=>(jH x).map .nilCheck
  | .binOp op t x y _=>match jH x,jH y with
    | some a,some b=>match op with
      | .eql=>if TE P t then some (.bin .eql a b) else if Lm P t b then some (.isNil false a) else if jl x || jl y then (Co P t).map fun e=>.eql e false a b else if Co P t matches some .iface then none else (Co P t).map fun e=>.eql e false a b
      | .neq=>if TE P t then some (.bin .neq a b) else if Lm P t b then some (.isNil true a) else if jl x || jl y then (Co P t).map fun e=>.eql e true a b else if Co P t matches some .iface then none else (Co P t).map fun e=>.eql e true a b
      | op=>if (eI op && Yw P t)=true then some (.iQ op a b) else some (.bin op a b)
    | _,_=>none
  | .unOp op _ x=>(jH x).map (.un op)
  | .convert s d x=>match KV P s d,jH x with
    | some c,some y=>some (.conv c y)
    | _,_=>none
  | .sliceToArrayPointer t x=>match P.underlying t,jH x with
    | some (.array n _),some y=>some (.uV n y)
    | _,_=>none
  | .makeInterface t x=>match P.underlying t with
    | some (.interface _)=>none
    | some _=>(jH x).map (.l_ t)
    | none=>none
  | .makeFunc fn a b=>match nK a.toList,nK b.toList with
    | some a,some b=>some (.mkFunc fn a b)
    | _,_=>none
  | .slice t x lo hi mx=>match jH x,Dq lo,Dq hi,Dq mx with
    | some x,some lo,some hi,some none=>match P.underlying t with
      | some .string=>some (.slice .str x lo hi none)
      | some (.slice e)=>(bO P e).map fun sz=>.slice (.sl sz) x lo hi none
      | some (.array n e)=>if bO P e=some 1 then some (.slice (.arr n) x lo hi none) else none
      | _=>none
    | _,_,_,_=>none
  | .fieldAddr s x f=>match fieldsOf P s,jH x with
    | some fs,some y=>match fs[f]? with
      | some fd=>match bO P fd.type with
        | some n=>if n≠0 then some (.fieldAddr fd.offset y) else none
        | none=>none
      | none=>none
    | _,_=>none
  | .field s x f=>match fieldsOf P s,jH x with
    | some fs,some y=>match fs[f]? with
      | some fd=>(shapeOf P fd.type).map fun n=>.field fd.offset n y
      | none=>none
    | _,_=>none
  | .indexAddr t x i=>match jH x,jH i with
    | some x,some i=>match P.underlying t with
      | some (.array n e)=>(bO P e).map fun sz=>.fB n sz x i
      | some (.slice e)=>match bO P e with
        | some sz=>if 0<sz then some (.aY sz x i) else none
        | none=>none
      | _=>none
    | _,_=>none
  | .index t x i=>match jH x,jH i with
    | some x,some i=>match P.underlying t with
      | some (.array n e)=>match bO P e,shapeOf P e with
        | some sz,some k=>some (.r8 n sz k x i)
        | _,_=>none
      | some .string=>some (.hU x i)
      | _=>none
    | _,_=>none
  | .extract x i=>(jH x).map fun y=>.extract y i
  | .panic x=>(jH x).map .panic
  | .call c=>match c.callee with
    | .value f=>match jH f,nK c.args.toList with
      | some g,some as=>some (if quiet then .qcall g as else if uW then .callR g as else .call g as)
      | _,_=>none
    | .builtin b=>match b,nK c.args.toList,c.argTypes[0]? with
      | .len,some [x],some t=>match P.underlying t with
        | some .string=>some (.len .str x)
        | some (.slice _)=>some (.len .sl x)
        | some (.array n _)=>some (.len (.arr n) x)
        | _=>none
      | .min,some [x,y],_=>some (.nG false x y)
      | .max,some [x,y],_=>some (.nG true x y)
      | .append,some [s,x],some t=>match nj P t,c.argTypes.toList with
        | some e,[_,t2]=>match bO P e,gB P e,fG P e,P.underlying t2 with
          | some sz,some jE,some z,some (.slice _)=>if (cellsD z).length=sz∧0<sz then some (.append sz jE false s x) else none
          | some sz,some jE,some z,some .string=>if (cellsD z).length=sz∧sz=1 then some (.append sz jE true s x) else none
          | _,_,_,_=>none
        | _,_=>none
      | _,_,_=>none
    | _=>none
  | .range t x=>match P.underlying t with
    | some .string=>(jH x).map .my
    | _=>none
  | .next x b=>match b with
    | true=>(jH x).map .pB
    | false=>none
  | .typeAssert x xt t ok=>match P.underlying t with
    | some (.interface _)=>none
    | some _=>(jH x).map (.typeAssert t ok .undef)
    | none=>none
  | .makeSlice t l c=>match nj P t,jH l,jH c with
    | some e,some l,some c=>match bO P e,gB P e,fG P e with
      | some sz,some jE,some z=>if (cellsD z).length=1∧sz=1∧bY z=true∧0<jE then some (.makeSlice sz jE (cellsD z) l c) else none
      | _,_,_=>none
    | _,_,_=>none
  | _=>none
end Go.Proofs.YtpklkpkfgmoghaaGreatDoor.Zz
namespace Go.Proofs.YtpklkpkfgmoghaaGreatDoor.Zz
variable {P:Program} {κ:b9} {h:aa} {w:World} {σ:Fr} {n:Nat} {a:Act}
def ea [aL] (P:Program) (κ:b9) (h:aa) (w:World) (K:D→aa→Prop) (E:D→aa→Prop):Result Next→Prop
 | .ok (.value v) w'=>∃κ' h' d,K d h'∧bX κ' w' v d∧Inv κ' h' w'∧Ev κ h w κ' h' w'
 | .ok .skip w'=>∃κ' h',K .undef h'∧Inv κ' h' w'∧Ev κ h w κ' h' w'
 | .ok (.enter f vs) w'=>Calls P f vs w' fun e Ah=>∃o kK gJ,dn.to K E o kK∧jB gJ Ah o e∧Inv gJ kK Ah∧Ev κ h w gJ kK Ah
 | .ok (.round l f tmps assign body) w'=>RoundIn Fence.wide 0 P l f tmps assign body w' fun e Ah=>∃o kK gJ,dn.to K E o kK∧jB gJ Ah o e∧Inv gJ kK Ah∧Ev κ h w gJ kK Ah
 | .halt (.panic v) w'=>∃κ' h' d,E d h'∧bX κ' w' v d∧Inv κ' h' w'∧Ev κ h w κ' h' w'
 | _=>False
variable {K E:D→aa→Prop}
theorem ea.val [aL] (hi:Inv κ h w) {v:Value} {d:D} (hk:K d h) (r:bX κ w v d):ea P κ h w K E (.ok (.value v) w):=⟨κ,h,d,hk,r,hi,Ev.refl κ h w⟩
theorem run_typeInfo {t:TypeId} {i:TypeInfo} (e:P.info? t=some i) (w:World):(typeInfo t).run P w=.ok i w:=by simp [typeInfo,e]
theorem run_sizeOf {t:TypeId} {k:Nat} (e:bO P t=some k) (w:World):(sizeOf t).run P w=.ok k w:=by
 unfold bO at e
 cases e1:P.info? t with
 | none=>simp [e1] at e
 | some i=>simp [e1] at e; simp [sizeOf,run_typeInfo e1,e]
theorem pA {t:TypeId} {d:D} (e:fG P t=some d) (κ:b9) (w:World):∃v,(zeroValue t).run P w=.ok v w∧bX κ w v d∧∃i,P.info? t=some i∧i.zero=some v:=by
 unfold fG at e
 cases e1:P.info? t with
 | none=>simp [e1] at e
 | some i=>
  cases e2:i.zero with
  | none=>simp [e1,e2] at e
  | some v=>
   simp [e1,e2] at e
   exact ⟨v,by simp [zeroValue,run_typeInfo e1,e2],BP e,i,rfl,e2⟩
theorem nT {t:TypeId} {k:Nat} (e:shapeOf P t=some (some k)) (w:World):(isAgg t).run P w=.ok true w∧bO P t=some k:=by
 unfold shapeOf at e
 split at e
 ·rename_i fs m e1 e2; simp at e; subst e; exact ⟨by simp [isAgg,run_underlying e1],e2⟩
 ·rename_i l el m e1 e2; simp at e; subst e; exact ⟨by simp [isAgg,run_underlying e1],e2⟩
 ·split at e<;>simp at e
 ·simp at e
theorem nS {t:TypeId} (e:shapeOf P t=some none) (w:World):(isAgg t).run P w=.ok false w∧bO P t=some 1:=by
 unfold shapeOf at e
 split at e
 ·simp at e
 ·simp at e
 ·rename_i d m e1 e2 h1 h2
  split at e
  ·rename_i hm
   subst hm
   refine ⟨?_,h2⟩
   cases d<;>first | (simp [isAgg,run_underlying h1]; done) | simp_all
  ·simp at e
 ·simp at e
theorem oK {v:Value} {d:D} (r:bX κ w v d) (hd:d≠.undef):bJ κ w v.cells.toList (cellsD d):=by
 cases r with
 | undef=>exact absurd rfl hd
 | agg hs hr=>exact bJ.gP hs hr
 | _=>exact .cons (by first | exact .bool _ | exact .int _ _ | exact .float _ _ | exact .str _ ‹_› | exact .fY | exact .a_ | exact .slnil ‹_› | exact .eK | exact .fL | exact .iS | (constructor<;>assumption)) .nil
theorem tp {v:Value} {d:D} (r:bX κ w v d) (hd:bY d=true):v.oneCell'=true∧v.cells= #[v]:=by
 cases r<;>first | (simp [bY] at hd; done) | exact ⟨rfl,rfl⟩
end Go.Proofs.YtpklkpkfgmoghaaGreatDoor.Zz
