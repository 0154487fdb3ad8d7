/- Frames; the compact form of code; what each instruction asks. -/
import Derived.Laws.FloatArith
import Derived.RangeFuncLeaves
import Derived.OrdersIn
import Derived.RangeFuncIn
import Derived.Test.YtpklkpkfgmoghaaGreatDoorZB
import Derived.Laws.Entries
import Derived.Laws.Cells
set_option linter.unnecessarySimpa false
set_option linter.unusedVariables false
set_option linter.unusedSimpArgs false
namespace Go.Proofs.YtpklkpkfgmoghaaGreatDoor.Zz
structure nJ where
 fn:Fn
 cap:List D
 args:List D
structure Fr where
 env:Nat→D
 defs:List nJ
def Fr.put (σ:Fr) (d:Option Nat) (x:D):Fr:=
 match d with
 | some t=>{ σ with env:=fun i=>if i=t then x else σ.env i }
 | none=>σ
def Fr.forget (σ:Fr):Fr:={ env:=fun _=>.undef,defs:=σ.defs }
@[simp] theorem Fr.qY (σ:Fr) (t:Nat) (x:D) (i:Nat):(σ.put (some t) x).env i=if i=t then x else σ.env i:=rfl
@[simp] theorem Fr.IC (σ:Fr) (x:D):σ.put none x=σ:=rfl
@[simp] theorem Fr.IB (σ:Fr) (d:Option Nat) (x:D):(σ.put d x).defs=σ.defs:=by cases d<;>rfl
@[simp] theorem Fr.abA (σ:Fr):σ.forget.defs=σ.defs:=rfl
@[simp] theorem Fr.adV (σ:Fr) (d:Option Nat) (x:D):(σ.put d x).forget=σ.forget:=by simp [Fr.forget]
theorem Fr.ext {σ τ:Fr} (h1:∀i,σ.env i=τ.env i) (h2:σ.defs=τ.defs):σ=τ:=by
 cases σ; cases τ
 simp only [Fr.mk.injEq]
 exact ⟨funext h1,h2⟩
def jx:List (Nat×D)→Nat→D
 | [],_=>.undef
 | (j,d)::l,i=>if i=j then d else jx l i
def FB (l:List (Nat×D)):Fr:={ env:=jx l,defs:=[] }
def Du (l:List (Nat×D)) (ds:List nJ):Fr:={ env:=jx l,defs:=ds }
inductive iC where
 | t (n:Nat)
 | c (d:D)
 | f (k:Nat)
def Fr.ev (σ:Fr):iC→D
 | .t n=>σ.env n
 | .c d=>d
 | .f k=>.func (.func k) [] []
inductive ET where
 | bool | ptr | slnil | amp | yQ
 | iface
 | struct (fs:List (Nat×ET))   -- offsets of fields that count, one cell each
 | Z_
 | array (n:Nat) (e:ET)
inductive CK where
 | qJ (k:IntKind) | uh | Ah (k:IntKind) | ld | eX | same | tb
 deriving DecidableEq
inductive SK where
 | str | sl (sz:Nat) | arr (n:Nat)
inductive LK where
 | str | sl | arr (n:Nat) | map
inductive cf (α:Type) where
 | cB (x:α)
 | pick (c a b:α)
 | alloc (ds:List D)
 | box (x:α)
 | build (zs:List D) (parts:List (Nat×Nat×α))
 | buildSlice (sz:Nat) (zs:List D) (len:Nat) (parts:List (Nat×α)) (zr:Bool)
 | load (n:Option Nat) (x:α)
 | cQ (n:Option Nat) (x b:α)
 | oa (f:FuncId)
 | store (n:Nat) (x v:α)
 | storeNe (n:Nat) (x v:α) (ys:List α)
 | nilCheck (x:α)
 | bin (op:BinOp) (x y:α)
 | kA (op:BinOp) (x y:α)
 | eql (t:ET) (neg:Bool) (x y:α)
 | un (op:UnOp) (x:α)
 | conv (c:CK) (x:α)
 | zq (n:Nat) (x:α)
 | slice (k:SK) (x:α) (lo hi mx:Option α)
 | fieldAddr (off:Nat) (x:α)
 | field (off:Nat) (n:Option Nat) (x:α)
 | hU (len sz:Nat) (x i:α)
 | aS (sz:Nat) (x i:α)
 | vM (len sz:Nat) (n:Option Nat) (x i:α)
 | jS (x i:α)
 | extract (x:α) (i:Nat)
 | nf (t:TypeId) (x:α)
 | mkFunc (fn:Fn) (first cap:List α)
 | len (k:LK) (x:α)
 | tl (k:LK) (x:α)
 | qN (mx:Bool) (x y:α)
 | append (sz bytes:Nat) (str:Bool) (s x:α)
 | makeSlice (sz bytes:Nat) (zs:List D) (len cap:α)
 | call (f:α) (args:List α)
 | callR (f:α) (args:List α)
 | callNe (f:α) (args ys:List α)
 | appendA (sz bytes:Nat) (str:Bool) (s x:α) (ys:List α)
 | lA (n:Nat) (x v:α)
 | j6 (n:Nat) (x v:α)
 | qcall (f:α) (args:List α)
 | panic (x:α)
 | defer (f:α) (args:List α)
 | typeAssert (t:TypeId) (ok:Bool) (zs:D) (x:α)
 | makeMap
 | lookup (z:D) (ok:Bool) (m k:α)
 | mapUpdate (m k v:α)
 | delete (m k:α)
 | isNil (neg:Bool) (x:α)
 | pH (x:α)
 | sX (x:α)
def cf.map {α β:Type} (g:α→β):cf α→cf β
 | .cB x=>.cB (g x)
 | .pick c a b=>.pick (g c) (g a) (g b)
 | .alloc ds=>.alloc ds
 | .box x=>.box (g x)
 | .build zs ps=>.build zs (ps.map fun p=>(p.1,p.2.1,g p.2.2))
 | .buildSlice sz zs n ps r=>.buildSlice sz zs n (ps.map fun p=>(p.1,g p.2)) r
 | .load n x=>.load n (g x)
 | .cQ n x b=>.cQ n (g x) (g b)
 | .oa f=>.oa f
 | .store n x v=>.store n (g x) (g v)
 | .storeNe n x v ys=>.storeNe n (g x) (g v) (ys.map g)
 | .nilCheck x=>.nilCheck (g x)
 | .bin op x y=>.bin op (g x) (g y)
 | .kA op x y=>.kA op (g x) (g y)
 | .eql t n x y=>.eql t n (g x) (g y)
 | .un op x=>.un op (g x)
 | .conv c x=>.conv c (g x)
 | .zq n x=>.zq n (g x)
 | .slice k x lo hi mx=>.slice k (g x) (lo.map g) (hi.map g) (mx.map g)
 | .fieldAddr o x=>.fieldAddr o (g x)
 | .field o n x=>.field o n (g x)
 | .hU l s x i=>.hU l s (g x) (g i)
 | .aS s x i=>.aS s (g x) (g i)
 | .vM l s n x i=>.vM l s n (g x) (g i)
 | .jS x i=>.jS (g x) (g i)
 | .extract x i=>.extract (g x) i
 | .nf t x=>.nf t (g x)
 | .mkFunc fn a b=>.mkFunc fn (a.map g) (b.map g)
 | .len k x=>.len k (g x)
 | .tl k x=>.tl k (g x)
 | .qN m x y=>.qN m (g x) (g y)
 | .append sz b t s x=>.append sz b t (g s) (g x)
 | .makeSlice sz b zs l c=>.makeSlice sz b zs (g l) (g c)
 | .call f as=>.call (g f) (as.map g)
 | .callR f as=>.callR (g f) (as.map g)
 | .callNe f as ys=>.callNe (g f) (as.map g) (ys.map g)
 | .appendA sz b t s x ys=>.appendA sz b t (g s) (g x) (ys.map g)
 | .lA n x v=>.lA n (g x) (g v)
 | .j6 n x v=>.j6 n (g x) (g v)
 | .qcall f as=>.qcall (g f) (as.map g)
 | .panic x=>.panic (g x)
 | .defer f as=>.defer (g f) (as.map g)
 | .typeAssert t ok z x=>.typeAssert t ok z (g x)
 | .makeMap=>.makeMap
 | .lookup z ok m k=>.lookup z ok (g m) (g k)
 | .mapUpdate m k v=>.mapUpdate (g m) (g k) (g v)
 | .delete m k=>.delete (g m) (g k)
 | .isNil n x=>.isNil n (g x)
 | .pH x=>.pH (g x)
 | .sX x=>.sX (g x)
def e_ (op:BinOp) (k:IntKind) (x y:Int):Option D:=
 match op with
 | .add=>some (.int k (k.wrap (x+y)))
 | .sub=>some (.int k (k.wrap (x - y)))
 | .mul=>some (.int k (k.wrap (x*y)))
 | .quo=>if y=0 then none else some (.int k (k.wrap (x.tdiv y)))
 | .rem=>if y=0 then none else some (.int k (x.tmod y))
 | .and=>some (.int k (k.wrap (BitVec.ofInt k.bits x &&& BitVec.ofInt k.bits y).toNat))
 | .or=>some (.int k (k.wrap (BitVec.ofInt k.bits x ||| BitVec.ofInt k.bits y).toNat))
 | .xor=>some (.int k (k.wrap (BitVec.ofInt k.bits x ^^^ BitVec.ofInt k.bits y).toNat))
 | .andNot=>some (.int k (k.wrap (BitVec.ofInt k.bits x &&& ~~~ BitVec.ofInt k.bits y).toNat))
 | .eql=>some (.bool (x==y))
 | .neq=>some (.bool (x != y))
 | .lss=>some (.bool (decide (x<y)))
 | .leq=>some (.bool (decide (x≤y)))
 | .gtr=>some (.bool (decide (x>y)))
 | .geq=>some (.bool (decide (x≥y)))
 | _=>none
def Cf (op:BinOp) (k:IntKind) (x y:Int):Option D:=
 if y<0 then none else
 match op with
 | .shl=>some (.int k (k.wrap (x*2 ^ (min y.toNat k.bits))))
 | .shr=>some (.int k (x.fdiv (2 ^ (min y.toNat k.bits))))
 | _=>none
def jM (op:BinOp) (a b:List UInt8):Option D:=
 match op with
 | .add=>if a.length+b.length≤9223372036854775807 then some (.str (a++b)) else none
 | .eql=>some (.bool (a==b))
 | .neq=>some (.bool (!(a==b)))
 | .lss=>some (.bool (Op.bytesLess a b))
 | .leq=>some (.bool (Op.bytesLess a b || a==b))
 | .gtr=>some (.bool (!(Op.bytesLess a b || a==b)))
 | .geq=>some (.bool (!(Op.bytesLess a b)))
 | _=>none
def kT (op:BinOp) (k:FloatKind) (a b:Nat):Option D:=
 match op with
 | .eql=>some (.bool (k.format.order a b==some .eq))
 | .neq=>some (.bool (k.format.order a b != some .eq))
 | .lss=>some (.bool (k.format.order a b==some .lt))
 | .leq=>some (.bool (k.format.order a b==some .lt || k.format.order a b==some .eq))
 | .gtr=>some (.bool (k.format.order a b==some .gt))
 | .geq=>some (.bool (k.format.order a b==some .gt || k.format.order a b==some .eq))
 | _=>none
def lE (op:BinOp):D→D→Option D
 | .int k a,.int k' b=>match op with
  | .shl=>Cf .shl k a b
  | .shr=>Cf .shr k a b
  | _=>if k=k' then e_ op k a b else none
 | .str a,.str b=>jM op a b
 | .float k a,.float k' b=>if k=k' then kT op k a b else none
 | _,_=>none
def pb (op:UnOp):D→Option D
 | .int k n=>match op with
  | .neg=>some (.int k (k.wrap (0 - n)))
  | .xor=>some (.int k (k.wrap (BitVec.ofInt k.bits (if k.signed then -1 else k.max) ^^^ BitVec.ofInt k.bits n).toNat))
  | _=>none
 | .bool b=>match op with
  | .not=>some (.bool (!b))
  | _=>none
 | .float k b=>match op with
  | .neg=>some (.float k (Op.negFloat k b))
  | _=>none
 | _=>none
def cellsD:D→List D
 | .agg ds=>ds
 | d=>[d]
def bX:D→Bool
 | .undef | .agg _ | .tuple _=>false
 | _=>true
def setAt (cs:List D) (off:Nat):List D→List D
 | []=>cs
 | d::ds=>setAt (cs.set off d) (off+1) ds
def iF (ds:List D) (off:Nat):Option Nat→Option D
 | none=>ds[off]?
 | some n=>if off+n≤ds.length then some (.agg ((ds.drop off).take n)) else none
def jP (zs:List D):List (Nat×Nat×D)→Option (List D)
 | []=>some zs
 | (off,sz,d)::ps=>if (cellsD d).length=sz∧off+sz≤zs.length∧(cellsD d).all bX=true then jP (setAt zs off (cellsD d)) ps else none
def rowsOf (sz:Nat) (zs:List D) (n:Nat):List (List D):=List.replicate n zs
def fD (sz:Nat):List (List D)→List (Nat×D)→Option (List (List D))
 | xs,[]=>some xs
 | xs,(i,d)::ps=>if (cellsD d).length=sz∧i<xs.length∧(cellsD d).all bX=true then fD sz (xs.set i (cellsD d)) ps else none
def gC:D→D
 | .aZ=>.sl []
 | d=>d
def isNil:D→Bool
 | .aZ=>true
 | _=>false
def sQ (zs:List D) (xs:List (List D)):List (List D):=bif zs.any isNil then xs.map (List.map gC) else xs
def byteOf:List D→UInt8
 | [.int _ n]=>UInt8.ofNat n.toNat
 | _=>0
def isByte:List D→Bool
 | [.int .u8 _]=>true
 | _=>false
def fX (s:List UInt8):List (List D):=s.map fun b=>[.int .u8 (b.toNat:Int)]
def dH (h:aa):D→Option (List (List D))
 | .aZ=>some []
 | .sl xs=>some xs
 | .row r aY off len=>match h.f r with
  | some (.row sz cC xs fz)=>if aY=cC∧off+len≤xs.length then some ((xs.drop off).take len) else none
  | _=>none
 | .u7 id off len=>match h.f id with
  | some (.cells ds)=>if off+len≤ds.length then some (((ds.drop off).take len).map fun d=>[d]) else none
  | _=>none
 | _=>none
def plain (h:aa):D→D
 | .aZ=>.sl []
 | .row r aY off len=>match h.f r with
  | some (.row sz cC xs fz)=>if aY=cC∧off+len≤xs.length then .sl ((xs.drop off).take len) else .undef
  | _=>.undef
 | .agg ds=>.agg (ds.map fun d=>match d with
   | .aZ=>.sl []
   | .row r aY off len=>match h.f r with
    | some (.row sz cC xs fz)=>if aY=cC∧off+len≤xs.length then .sl ((xs.drop off).take len) else .undef
    | _=>.undef
   | d=>d)
 | d=>d
def fh (h:aa) (r:Nat):aa:=
 match h.f r with
 | some (.row sz aY xs _)=>h.set r (.row sz aY xs true)
 | _=>h
def hO (h:aa):D→aa
 | .row r _ _ _=>fh h r
 | .agg ds=>ds.foldl (fun h d=>match d with | .row r _ _ _=>fh h r | _=>h) h
 | _=>h
def fQ (h:aa) (ds:List D):aa:=ds.foldl hO h
def fj (h:aa) (n:Option Nat):D→Option D
 | .ptr id aY off=>match h.f id with
  | some (.cells ds)=>if aY=1 then iF ds off n else none
  | _=>none
 | .cO cells off=>iF cells off n
 | .fT r aY i f=>match h.f r with
  | some (.row sz cC xs fz)=>if aY=cC then (match xs[i]? with | some x=>iF x f n | none=>none) else none
  | some (.dz sz cC xs du)=>if aY=cC then (match xs[i]? with | some x=>iF x f n | none=>none) else none
  | _=>none
 | _=>none
def gT (h:aa) (n:Nat) (a v:D):Option aa:=
 if (cellsD v).length=n∧(cellsD v).all bX=true then
  match a with
  | .ptr id aY off=>match h.f id with
   | some (.cells ds)=>if aY=1∧off+n≤ds.length then some (h.set id (.cells (setAt ds off (cellsD v)))) else none
   | _=>none
  | .fT r aY i f=>match h.f r with
   | some (.row sz cC xs false)=>if aY=cC then (match xs[i]? with | some x=>if f+n≤x.length then some (h.set r (.row sz cC (xs.set i (setAt x f (cellsD v))) false)) else none | none=>none) else none
   | _=>none
  | _=>none
 else none
def iS (x y:D):Bool:=
 match x,y with
 | .ptr i _ _,.ptr j _ _ | .ptr i _ _,.fT j _ _ _ | .fT i _ _ _,.ptr j _ _ | .fT i _ _ _,.fT j _ _ _=> !(i==j)
 | _,.cO .. =>true
 | _,_=>false
def fy (x y:D):Bool:=
 match x,y with
 | .cO ..,_=>true
 | .ptr i _ _,.ptr j _ _ | .ptr i _ _,.fT j _ _ _ | .fT i _ _ _,.ptr j _ _ | .fT i _ _ _,.fT j _ _ _=>i==j
 | _,_=>false
def pw:D→Option Int
 | .int _ n=>some n
 | _=>none
def bounds (n:Nat) (lo hi:Option D):Option (Nat×Nat):=
 match (match lo with | none=>some 0 | some d=>pw d),(match hi with | none=>some (n:Int) | some d=>pw d) with
 | some l,some u=>if 0≤l∧l≤u∧u≤n then some (l.toNat,u.toNat) else none
 | _,_=>none
def gH (k:SK) (x:D) (lo hi mx:Option D):Option D:=
 match mx with
 | some _=>none
 | none=>
  match k,x with
  | .str,.str s=>(bounds s.length lo hi).map fun b=>.str ((s.drop b.1).take (b.2 - b.1))
  | .sl sz,.sl xs=>if ∀y∈xs,y.length=sz then (bounds xs.length lo hi).map fun b=>.sl ((xs.drop b.1).take (b.2 - b.1)) else none
  | .arr n,.ptr id aY off=>if aY=1∧n≤9223372036854775807 then (bounds n lo hi).map fun b=>.u7 id (off+b.1) (b.2 - b.1) else none
  | _,_=>none
def Ab:List D→List D→Option Bool
 | [],[]=>some true
 | .int k a::xs,.int k' b::ys=>if k=k' then (if a==b then Ab xs ys else some false) else none
 | _,_=>none
def kh:ET→D→D→Option Bool
 | .bool,.bool a,.bool b=>some (a==b)
 | .ptr,.iR,.iR=>some true
 | .ptr,.ptr ..,.iR=>some false
 | .ptr,.iR,.ptr .. =>some false
 | .slnil,.aZ,.aZ=>some true
 | .yQ,.func ..,.gf=>some false
 | .yQ,.gf,.gf=>some true
 | .iface,.gX,.gX=>some true
 | .iface,.iface ..,.gX=>some false
 | .iface,.gX,.iface .. =>some false
 | .array n .Z_,.agg a,.agg b=>if a.length=n∧b.length=n then Ab a b else none
 | _,_,_=>none
def bC:cf D→Option D
 | .cB x=>some x
 | .build zs ps=>(jP zs ps).map .agg
 | .nilCheck x=>match x with
  | .ptr .. | .cO .. | .fT .. | .func (.func _) _ _=>some x
  | _=>none
 | .bin op x y=>lE op x y
 | .eql t neg x y=>(kh t x y).map fun b=>.bool (if neg then !b else b)
 | .un op x=>pb op x
 | .conv c x=>match c,x with
  | .qJ k,.int _ n=>some (.int k (k.wrap n))
  | .uh,.int _ n=>some (.float .f64 (FloatKind.f64.nearest n))
  | .same,.str s=>some (.str s)
  | .Ah k,.float .f64 b=>(floatToIntVal .f64 b k).map (.int k)
  | .tb,.float .f64 b=>some (.float .f64 b)
  | _,_=>none
 | .zq n x=>match x with
  | .u7 id off len=>if 0<n∧n≤len then some (.ptr id 1 off) else none
  | _=>none
 | .slice k x lo hi mx=>gH k x lo hi mx
 | .fieldAddr o x=>match x with
  | .ptr id aY off=>some (.ptr id aY (off+o))
  | .cO cs off=>some (.cO cs (off+o))
  | .fT r aY i f=>some (.fT r aY i (f+o))
  | _=>none
 | .field o n x=>match x with
  | .agg ds=>iF ds o n
  | _=>none
 | .hU len sz x i=>match x,i with
  | .ptr id aY off,.int _ i=>if 0≤i∧i<len then some (.ptr id aY (off+i.toNat*sz)) else none
  | .cO cs off,.int _ i=>if 0≤i∧i<len then some (.cO cs (off+i.toNat*sz)) else none
  | .fT r aY j f,.int _ i=>if 0≤i∧i<len then some (.fT r aY j (f+i.toNat*sz)) else none
  | _,_=>none
 | .aS sz x i=>match x,i with
  | .sl xs,.int _ i=>if 0≤i then (match xs[i.toNat]? with | some x=>if x.length=sz then some (.cO x 0) else none | none=>none) else none
  | .u7 id off len,.int _ i=>if 0≤i∧i<len∧sz=1 then some (.ptr id 1 (off+i.toNat)) else none
  | _,_=>none
 | .vM len sz n x i=>match x,i with
  | .agg ds,.int _ i=>if 0≤i∧i<len then iF ds (i.toNat*sz) n else none
  | _,_=>none
 | .jS x i=>match x,i with
  | .str s,.int _ i=>if 0≤i then (match s[i.toNat]? with | some b=>some (.int .u8 (b.toNat:Int)) | none=>none) else none
  | _,_=>none
 | .extract x i=>match x with
  | .tuple ds=>ds[i]?
  | _=>none
 | .nf t x=>some (.iface t x)
 | .mkFunc fn a b=>some (.func fn a b)
 | .qN mx x y=>match x,y with
  | .int k a,.int _ b=>some (.int k (if mx then (if a<b then b else a) else (if b<a then b else a)))
  | _,_=>none
 | _=>none
def dB (h:aa):cf D→Option D
 | .load n x=>fj h n x
 | .conv c x=>match c with
  | .eX=>match dH h x with
   | some xs=>if xs.all isByte=true then some (.str (xs.map byteOf)) else none
   | none=>none
  | _=>none
 | .slice k x lo hi mx=>match k,x,mx with
  | .sl sz,.row r aY off len,none=>match h.f r with
   | some (.row jy cC xs fz)=>if jy=sz∧cC=aY then (bounds len lo hi).map fun b=>.row r aY (off+b.1) (b.2 - b.1) else none
   | _=>none
  | _,_,_=>none
 | .aS sz x i=>match x,i with
  | .row r aY off len,.int _ i=>match h.f r with
   | some (.row jy cC xs fz)=>if jy=sz∧cC=aY∧0≤i∧i<len then some (.fT r aY (off+i.toNat) 0) else none
   | some (.dz jy cC xs du)=>if jy=sz∧cC=aY∧0≤i∧i<len then some (.fT r aY (off+i.toNat) 0) else none
   | _=>none
  | _,_=>none
 | _=>none
inductive cY where
 | ret (d:D)
 | panic (d:D)
inductive lh (κ:cT) (w:World):cY→Ending→Prop
 | ret {d:D} {v:Value} (h:cL κ w v d):lh κ w (.ret d) (.returned v)
 | panic {d:D} {v:Value} (h:cL κ w v d):lh κ w (.panic d) (.panicked [{ v,recovered:=false }])
inductive cn (κ:cT) (w:World):List Value→List D→Prop
 | nil:cn κ w [] []
 | cons {v:Value} {d:D} {vs:List Value} {ds:List D} (h:cL κ w v d) (t:cn κ w vs ds):cn κ w (v::vs) (d::ds)
def gK (P:Program) (f:FuncId):Bool:=
 match P.funcs[f]? with
 | some fn=> !(fn.name== "runtime.NumGoroutine") && fn.body.isSome
 | none=>false
def cY.to (K:D→aa→Prop) (E:D→aa→Prop):cY→aa→Prop
 | .ret d,h=>K d h
 | .panic d,h=>E d h
def aH [aT] (P:Program) (f:FuncId) (args:List D) (h:aa) (R:cY→aa→Prop):Prop:=
 gK P f=true∧∀(κ:cT) (w:World) (vs:Array Value),Inv κ h w→cn κ w vs.toList args→
  Calls P f vs w fun e w'=>∃o h' κ',R o h'∧lh κ' w' o e∧Inv κ' h' w'∧Ev κ h w κ' h' w'
def aV [aT] (P:Program) (f:FuncId) (args:List D) (d:D):Prop:=aH P f args .emp fun o _=>o=.ret d
structure bh where
 q:FuncId→List D→Option D
 a:FuncId→Option (List D)
 c:FuncId→List D→aa→(D→aa→Prop)→(D→aa→Prop)→Prop
 mono:∀f args h (K E K' E':D→aa→Prop),(∀d h,K d h→K' d h)→(∀d h,E d h→E' d h)→c f args h K E→c f args h K' E'
 y:Nat→List D→aa→(D→aa→Prop)→Prop
 aks:∀l args h (K K':D→aa→Prop),(∀d h,K d h→K' d h)→y l args h K→y l args h K'
 r:FuncId→Nat→(List D→aa→(D→aa→Prop)→Prop)→List D→aa→(D→aa→Prop)→Prop
 aiL:∀f l Y Y' args h (K K':D→aa→Prop),(∀args h (K K':D→aa→Prop),(∀d h,K d h→K' d h)→Y args h K→Y' args h K')→(∀d h,K d h→K' d h)→r f l Y args h K→r f l Y' args h K'
def dw [aT] (P:Program) (κ:cT) (w:World) (f:FuncId) (args:List D) (h:aa) (R:cY→aa→Prop):Prop:=
 gK P f=true∧∀(vs:Array Value),Inv κ h w→cn κ w vs.toList args→
  Calls P f vs w fun e w'=>∃o h' κ',R o h'∧lh κ' w' o e∧Inv κ' h' w'∧Ev κ h w κ' h' w'
def KU [aT] (P:Program) (κ:cT) (w:World) (l:Nat) (args:List D) (h:aa) (K:D→aa→Prop):Prop:=
 ∀(vs:Array Value),Inv κ h w→cn κ w vs.toList args→
  ∃f tmps assign body,(Instr.yield l vs).run P w=.ok (.round l f tmps assign body) w∧
   RoundIn Fence.wide 0 P l f tmps assign body w fun e w'=>∃o h' κ',cY.to K (fun _ _=>False) o h'∧lh κ' w' o e∧Inv κ' h' w'∧Ev κ h w κ' h' w'
def abn (Y:List D→aa→(D→aa→Prop)→Prop):Prop:=∀args h (K K':D→aa→Prop),(∀d h,K d h→K' d h)→Y args h K→Y args h K'
def zg (P:Program) (f:FuncId) (args:List D) (d:D):Prop:=∀(κ:cT) (w:World) (vs:Array Value),cn κ w vs.toList args→∃v,(callFunc f vs).run P w=.ok (.value v) w∧cL κ w v d
structure bh.qe [aT] (P:Program) (κ:cT) (w:World) (T:bh):Prop where
 q:∀f args d,T.q f args=some d→aV P f args d∨zg P f args d
 a:∀f ds h,T.a f=some ds→aH P f [] h fun o h'=>∃id,h.f id=none∧o=.ret (.ptr id 1 0)∧h'=h.set id (.cells ds)
 c:∀f args h K E,T.c f args h K E→∀κ' w',Le κ w κ' w'→dw P κ' w' f args h (cY.to K E)
 y:∀l args h K,T.y l args h K→∀κ' w',Le κ w κ' w'→KU P κ' w' l args h K
 r:∀f l Y args h K κ' w',Le κ w κ' w'→abn Y→(∀args h K,Y args h K→∀jt EB,Le κ' w' jt EB→KU P jt EB l args h K)→T.r f l Y args h K→dw P κ' w' f args h (cY.to K fun _ _=>False)
structure bh.ok [aT] (P:Program) (T:bh):Prop where
 q:∀f args d,T.q f args=some d→aV P f args d∨zg P f args d
 a:∀f ds h,T.a f=some ds→aH P f [] h fun o h'=>∃id,h.f id=none∧o=.ret (.ptr id 1 0)∧h'=h.set id (.cells ds)
 c:∀f args h K E,T.c f args h K E→aH P f args h (cY.to K E)
 y:∀l args h K,¬T.y l args h K
 r:∀f l Y args h K κ w,abn Y→(∀args h K,Y args h K→∀κ' w',Le κ w κ' w'→KU P κ' w' l args h K)→T.r f l Y args h K→dw P κ w f args h (cY.to K fun _ _=>False)
theorem aH.at_ [aT] {P:Program} {f:FuncId} {args:List D} {h:aa} {R:cY→aa→Prop} (c:aH P f args h R) (κ:cT) (w:World):dw P κ w f args h R:=⟨c.1,fun vs=>c.2 κ w vs⟩
theorem bh.ok.toY [aT] {P:Program} {T:bh} (hT:T.ok P) (κ:cT) (w:World):T.qe P κ w:=
 ⟨hT.q,hT.a,fun f args h K E x κ' w' _=>(hT.c f args h K E x).at_ κ' w',fun l args h K x=>absurd x (hT.y l args h K),fun f l Y args h K κ' w' _=>hT.r f l Y args h K κ' w'⟩
theorem Le.trans {κ1 κ2 κ3:cT} {w1 w2 w3:World} (a:Le κ1 w1 κ2 w2) (b:Le κ2 w2 κ3 w3):Le κ1 w1 κ3 w3:=
 ⟨fun x hx=>⟨(b.jv x (a.jv x hx).1).1,(b.jv x (a.jv x hx).1).2.trans (a.jv x hx).2⟩,fun id p hp=>by
  obtain ⟨p',h1,h2,h3,h4⟩:=a.loc id p hp
  obtain ⟨p'',k1,k2,k3,k4⟩:=b.loc id p' h1
  refine ⟨p'',k1,Nat.le_trans h2 k2,fun e=>?_,h4.trans k4 h2 h3⟩
  have e1:p'.aY=p.aY:=by omega
  have:=h3 e1
  subst this
  exact k3 e⟩
theorem bh.qe.mono [aT] {P:Program} {T:bh} {κ κ':cT} {w w':World} (hT:T.qe P κ w) (le:Le κ w κ' w'):T.qe P κ' w':=
 ⟨hT.q,hT.a,fun f args h K E x jt EB l=>hT.c f args h K E x jt EB (le.trans l),fun l args h K x jt EB l'=>hT.y l args h K x jt EB (le.trans l'),fun f l Y args h K jt EB l'=>hT.r f l Y args h K jt EB (le.trans l')⟩
def f_:BinOp→Bool
 | .add | .sub | .mul | .quo=>true
 | _=>false
def sY (h:aa) (str:Bool) (x:D):Option (List (List D)):=
 match str,x with
 | true,.str b=>some (fX b)
 | true,_=>none
 | false,x=>dH h x
def iz (h h':aa):D→Prop
 | .ptr id _ _ | .fT id _ _ _=>h'.f id=h.f id
 | .cO .. =>True
 | _=>False
def cellAt (h:aa):D→Bool
 | .ptr id _ _=>match h.f id with
  | some (.cells _)=>true
  | _=>false
 | _=>false
def E8 (h:aa):D→Option (D×aa)
 | .aZ=>some (.aZ,h)
 | .row r aY off len=>match h.f r with
  | some (.dz sz cur xs du)=>if off=0 then (if aY=cur∧len=xs.length then some (.row r aY 0 len,h) else if (aY,len)∈du then some (.row r (cur+1) 0 len,h.set r (.dz sz (cur+1) (xs.take len) (du.filter fun e=>decide (e.1≤aY)))) else none) else none
  | _=>none
 | _=>none
def UM (h:aa):List D→Option (List D×aa)
 | []=>some ([],h)
 | d::ds=>match E8 h d with
  | some (d',h1)=>match UM h1 ds with
   | some (Ly,h2)=>some (d'::Ly,h2)
   | none=>none
  | none=>none
def GZ (h:aa):D→Option (D×aa)
 | .agg ds=>match UM h ds with
  | some (Ly,h')=>some (.agg Ly,h')
  | none=>none
 | _=>none
def tv (h:aa):D→D
 | .row r aY off len=>match h.f r with
  | some (.row sz cC xs fz)=>if aY=cC∧off+len≤xs.length then .sl (((xs.map (List.map (plain h))).drop off).take len) else .undef
  | _=>.undef
 | d=>plain h d
def Ff (h:aa):D→aa
 | .row r aY off len=>match h.f r with
  | some (.row sz cC xs fz)=>(fQ h xs.flatten).set r (.row sz cC (xs.map (List.map (plain h))) true)
  | _=>h
 | d=>hO h d
def scalar:D→Bool
 | .bool _ | .int .. | .float .. | .str _ | .undef=>true
 | _=>false
def gO (d:D) (h h':aa):aa:=bif scalar d then h else h'
def aa.Ce (h:aa) (L:List (Nat×cJ)):aa:=L.foldr (fun p h=>h.set p.1 p.2) h
def eV (T:bh) (i:cf D) (h:aa) (K:D→aa→Prop) (E:D→aa→Prop):Prop:=
 match i with
 | .pick c a b=>match c with
  | .bool c=>(c=true→K a h)∧(c=false→K b h)
  | _=>False
 | .alloc ds=>∀id,h.f id=none→K (.ptr id 1 0) (h.set id (.cells ds))
 | .box x=>(cellsD x).all bX=true∧∀id,h.f id=none→K (.ptr id 1 0) (h.set id (.cells (cellsD x)))
 | .buildSlice sz zs len ps zr=>∃xs,fD sz (rowsOf sz zs len) ps=some xs∧
   (match zr with
    | true=>∀id,h.f id=none→K (.row id (len+2) 0 len) (h.set id (.row sz (len+2) xs false))
    | false=>K (.sl (sQ zs xs)) h)
 | .load n x=>∃d,fj h n x=some d∧K d h
 | .cQ n x b=>∃d,(if fy x b=true then fj h n x else none)=some d∧K d h
 | .oa k=>∃ds,T.a k=some ds∧∀id,h.f id=none→K (.ptr id 1 0) (h.set id (.cells ds))
 | .store n x v=>∃h',gT h n x v=some h'∧K .undef h'
 | .storeNe n x v ys=>ys.all (iS x)=true∧∃h',gT h n x v=some h'∧K .undef h'
 | .conv c x=>match c with
  | .eX=>∃d,dB h (.conv .eX x)=some d∧K d h
  | .ld=>match x with
   | .str s=>K (.sl (fX s)) h
   | _=>False
  | _=>∃d,bC i=some d∧K d h
 | .slice k x lo hi mx=>match x with
  | .row .. =>∃d,dB h (.slice k x lo hi mx)=some d∧K d h
  | _=>∃d,bC (.slice k x lo hi mx)=some d∧K d h
 | .aS sz x i=>match x with
  | .row .. =>∃d,dB h (.aS sz x i)=some d∧K d h
  | _=>∃d,bC (.aS sz x i)=some d∧K d h
 | .len k x=>match k,x with
  | .str,.str s=>s.length≤9223372036854775807→K (.int .i64 (s.length:Int)) h
  | .arr n,_=>K (.int .i64 (n:Int)) h
  | .sl,.aZ=>K (.int .i64 0) h
  | .sl,.sl xs=>xs.length≤9223372036854775807→K (.int .i64 (xs.length:Int)) h
  | .sl,.row r aY off len=>len≤9223372036854775807→K (.int .i64 (len:Int)) h
  | .sl,.u7 id off len=>len≤9223372036854775807→K (.int .i64 (len:Int)) h
  | _,_=>False
 | .append sz bytes str s x=>∃ys,sY h str x=some ys∧(∀y∈ys,y.length=sz∧y.all bX=true)∧0<bytes∧
   (match s with
    | .aZ=>(ys=[]→K .aZ h)∧ys.length*bytes≤140737488355328∧(ys≠[]→∀id,h.f id=none→K (.row id (ys.length+2) 0 ys.length) (h.set id (.row sz (ys.length+2) ys false)))
    | .row r aY off len=>match h.f r with
     | some (.row jy cC xs false)=>aY=cC∧jy=sz∧off=0∧len=xs.length∧(xs.length+ys.length)*bytes≤140737488355328∧
       K (.row r (aY+ys.length) 0 (len+ys.length)) (h.set r (.row sz (aY+ys.length) (xs++ys) false))
     | _=>False
    | _=>False)
 | .makeSlice sz bytes zs l c=>match l,c with
  | .int _ l,.int _ c=>0≤l∧l=c∧l*bytes≤140737488355328∧zs.length=sz∧0<sz∧∀id,h.f id=none→K (.row id (l.toNat+2) 0 l.toNat) (h.set id (.row sz (l.toNat+2) (rowsOf sz zs l.toNat) false))
  | _,_=>False
 | .call f args=>match f with
  | .func (.func k) first cap=>T.c k ((first++args++cap).map (plain h)) (fQ h (first++args++cap)) K E
  | .func (.yield l) first cap=>∃h1 L,fQ h (first++args)=aa.Ce h1 L∧(∀p∈L,h1.f p.1=none)∧
    T.y l ((first++args).map (plain h)) h1 (fun d h'=>(∀p∈L,h'.f p.1=none)→K d (h'.Ce L))
  | _=>False
 | .callR f args=>match f with
  | .func (.func k) first cap=>T.c k (first++args++cap) h K E
  | _=>False
 | .callNe f args ys=>match f with
  | .func (.func k) first cap=>T.c k ((first++args++cap).map (plain h)) (fQ h (first++args++cap)) (fun d h'=>(∀y∈ys,iz h h' y)∧K d h') E
  | _=>False
 | .appendA sz bytes str s x zs=>zs.all (cellAt h)=true∧∃ys,sY h str x=some ys∧(∀y∈ys,y.length=sz∧y.all bX=true)∧0<bytes∧
   (match s with
    | .aZ=>ys≠[]∧ys.length*bytes≤140737488355328∧∀id,h.f id=none→K (.row id 2 0 ys.length) (h.set id (.dz sz 2 ys []))
    | .row r aY off len=>match h.f r with
     | some (.dz jy cC xs du)=>ys≠[]∧aY=cC∧jy=sz∧off=0∧len=xs.length∧(xs.length+ys.length)*bytes≤140737488355328∧
       K (.row r (aY+1) 0 (len+ys.length)) (h.set r (.dz sz (aY+1) (xs++ys) ((aY,len)::du)))
     | some (.row jy cC xs false)=>aY=cC∧jy=sz∧off=0∧len=xs.length∧(xs.length+ys.length)*bytes≤140737488355328∧
       K (.row r (aY+ys.length) 0 (len+ys.length)) (h.set r (.row sz (aY+ys.length) (xs++ys) false))
     | _=>False
    | _=>False)
 | .j6 n x v=>∃h',gT (Ff h v) n x (tv h v)=some h'∧K .undef h'
 | .lA n x v=>match GZ h v with
  | some (v',h1)=>∃h',gT h1 n x v'=some h'∧K .undef h'
  | none=>False
 | .qcall f args=>match f with
  | .func (.func k) first cap=>∃d,T.q k ((first++args++cap).map (plain h))=some d∧K d (gO d h (fQ h (first++args++cap)))
  | _=>False
 | .panic x=>match x with
  | .iface t d=>E (.iface t d) h
  | _=>False
 | .kA op x y=>match x,y with
  | .float .f64 a,.float .f64 b=>f_ op=true∧(match floatBits op .f64 a b with
   | some r=>K (.float .f64 r) h
   | none=>∀r,FloatKind.f64.format.order r r=none→K (.float .f64 r) h)
  | _,_=>False
 | .isNil neg x=>match x with
  | .aZ=>K (.bool (!neg)) h
  | .sl xs=>(xs=[]→K (.bool (!neg)) h)∧K (.bool neg) h
  | .row .. =>K (.bool neg) h
  | _=>False
 | .pH x=>match x with
  | .str s=>∀id,h.f id=none→K (.iter id) (h.set id (.lH s 0))
  | _=>False
 | .sX x=>match x with
  | .iter id=>match h.f id with
   | some (.lH s pos)=>(pos<s.length→K (.tuple [.bool true,.int .i64 (pos:Int),.int .i32 ((Utf8.decode ⟨s.toArray⟩ pos).1:Int)]) (h.set id (.lH s (pos+(Utf8.decode ⟨s.toArray⟩ pos).2))))∧(s.length≤pos→K (.tuple [.bool false]) h)
   | _=>False
  | _=>False
 | .typeAssert t ok z x=>match x with
  | .iface t' d=>t'=t∧K (bif ok then .tuple [d,.bool true] else d) h
  | _=>False
 | .tl .. | .makeMap | .lookup .. | .mapUpdate .. | .delete .. | .defer .. =>False
 | i=>∃d,bC i=some d∧K d h
end Go.Proofs.YtpklkpkfgmoghaaGreatDoor.Zz
namespace Go.Proofs.YtpklkpkfgmoghaaGreatDoor.Zz
def TP:Value→Option D
  | .bool b=>some (.bool b)
  | .int k n=>some (.int k n)
  | .float k b=>some (.float k b)
  | .string s=>if s.data.toList.length≤9223372036854775807 then some (.str s.data.toList) else none
  | .pointer none=>some .iR
  | .slice none 0 0=>some .aZ
  | .nilIface=>some .gX
  | .nilFunc=>some .gf
  | .map none=>some .kC
  | _=>none
def KV:List Value→Option (List D)
  | []=>some []
  | v::vs=>match TP v,KV vs with
    | some d,some ds=>some (d::ds)
    | _,_=>none
def TQ:Value→Option D
  | .agg cs=>(KV cs.toList).map .agg
  | v=>TP v
theorem Gk {κ:cT} {w:World} {v:Value} {d:D} (h:TP v=some d):cL κ w v d:=by
  unfold TP at h
  split at h
  all_goals first
    | (cases h; done)
    | (cases h; first | exact .bool _ | exact .int _ _ | exact .float _ _ | exact .iR | exact .aZ | exact .gX | exact .gf | exact .kC)
    | (split at h
       · cases h
         rename_i s hs
         have:=cL.str (κ:=κ) (w:=w) s.data.toList hs
         simpa using this
       · cases h)
theorem Gl {κ:cT} {w:World}:∀{vs:List Value} {ds:List D},KV vs=some ds→cn κ w vs ds
  | [],ds,h=>by simp [KV] at h; subst h; exact .nil
  | v::vs,ds,h=>by
    simp only [KV] at h
    split at h
    · rename_i d Ly h1 h2
      cases h
      exact .cons (Gk h1) (Gl h2)
    · cases h
theorem cn.length {κ:cT} {w:World} {vs:List Value} {ds:List D} (h:cn κ w vs ds):vs.length=ds.length:=by
  induction h with
  | nil=>rfl
  | cons _ _ ih=>simp [ih]
theorem cn.get {κ:cT} {w:World} {vs:List Value} {ds:List D} (h:cn κ w vs ds):∀(i:Nat) (d:D),ds[i]? =some d→∃v,vs[i]? =some v∧cL κ w v d:=by
  induction h with
  | nil=>intro i d e; simp at e
  | cons a _ ih=>
    intro i d e
    cases i with
    | zero=>simp at e; subst e; exact ⟨_,by simp,a⟩
    | succ i=>simp at e; simpa using ih i d e
theorem cn.qP {κ:cT} {w:World}:∀{vs:List Value} {ds:List D},vs.length=ds.length→(∀(i:Nat) (d:D),ds[i]? =some d→∃v,vs[i]? =some v∧cL κ w v d)→cn κ w vs ds
  | [],[],_,_=>.nil
  | v::vs,d::ds,hl,h=>by
    obtain ⟨v',e,r⟩:=h 0 d (by simp)
    simp at e
    subst e
    exact .cons r (cn.qP (by simpa using hl) fun i d hd=>by simpa using h (i+1) d (by simpa using hd))
  | [],_::_,hl,_=>by simp at hl
  | _::_,[],hl,_=>by simp at hl
theorem cn.mono {κ κ':cT} {w w':World} {vs:List Value} {ds:List D} (h:cn κ w vs ds) (le:Le κ w κ' w'):cn κ' w' vs ds:=by
  induction h with
  | nil=>exact .nil
  | cons a _ ih=>exact .cons (a.mono le) ih
theorem cn.append {κ:cT} {w:World} {vs us:List Value} {ds es:List D} (h:cn κ w vs ds) (k:cn κ w us es):cn κ w (vs++us) (ds++es):=by
  induction h with
  | nil=>exact k
  | cons a _ ih=>exact .cons a ih
theorem cn.agg {κ:cT} {w:World} {cs:Array Value} {ds:List D} (h:cn κ w cs.toList ds):cL κ w (.agg cs) (.agg ds):=
  .agg (by have:=h.length; simpa using this) fun i d hd=>by
    obtain ⟨v,e,r⟩:=h.get i d hd
    have:cs.getD i (.tuple #[])=v:=by
      have e':cs[i]? =some v:=by simpa using e
      simp [Array.getD_eq_getD_getElem?,e']
    rw [this]; exact r
theorem cn.tuple {κ:cT} {w:World} {cs:Array Value} {ds:List D} (h:cn κ w cs.toList ds):cL κ w (.tuple cs) (.tuple ds):=
  .tuple (by have:=h.length; simpa using this) fun i d hd=>by
    obtain ⟨v,e,r⟩:=h.get i d hd
    have:cs.getD i (.tuple #[])=v:=by
      have e':cs[i]? =some v:=by simpa using e
      simp [Array.getD_eq_getD_getElem?,e']
    rw [this]; exact r
theorem cn.jC {κ:cT} {w:World} {cs:Array Value} {ds:List D} (hs:cs.size=ds.length) (hr:∀(i:Nat) (d:D),ds[i]? =some d→cL κ w (cs.getD i (.tuple #[])) d):cn κ w cs.toList ds:=
  cn.qP (by simpa using hs) fun i d hd=>by
    have hi:i<cs.size:=by
      have:=(List.getElem?_eq_some_iff.1 hd).1
      omega
    have LL:=hr i d hd
    refine ⟨cs[i],by simp [hi],?_⟩
    simpa [Array.getD,hi] using LL
theorem Gm {κ:cT} {w:World} {v:Value} {d:D} (h:TQ v=some d):cL κ w v d:=by
  unfold TQ at h
  split at h
  · rename_i cs
    cases e:KV cs.toList with
    | none=>simp [e] at h
    | some ds=>
      simp [e] at h
      subst h
      exact (Gl e).agg
  · exact Gk h
def lz [aT]:Operand→Option iC
  | .tmp t=>some (.t t)
  | .const v=>(TQ v).map .c
  | .func f=>some (.f f)
  | .global g=>(aT.of g).map fun ds=>.c (.cO ds 0)
def qR [aT] (l:List Operand):Option (List iC):=l.mapM lz
def Ii [aT]:Option Operand→Option (Option iC)
  | none=>some none
  | some x=>(lz x).map some
inductive KR (κ:cT) (w:World):Deferred→nJ→Prop
  | col {r id:Nat} {p:Place} (hl:κ.loc id=some p) (hv:p.aY=1) (hb:p.blk=r):KR κ w { target:=.collected r,args:= #[] } { fn:=.yield id,cap:=[],args:=[] }
  | mk {k:FuncId} {cap args:Array Value} {dc da:List D} (hc:cn κ w cap.toList dc) (ha:cn κ w args.toList da):KR κ w { target:=.fn (.func k) cap,args:=args } { fn:=.func k,cap:=dc,args:=da }
inductive mS (κ:cT) (w:World):List Deferred→List nJ→Prop
  | nil:mS κ w [] []
  | cons {d:Deferred} {e:nJ} {ds:List Deferred} {es:List nJ} (h:KR κ w d e) (t:mS κ w ds es):mS κ w (d::ds) (e::es)
structure lf [aT] (κ:cT) (w:World) (σ:Fr) (n:Nat) (a:Act):Prop where
  size:a.tmps.size=n
  env:∀i,cL κ w (a.tmps.getD i undef) (σ.env i)
  defs:mS κ w a.defers σ.defs
  mN:iX κ w
theorem mS.mono {κ κ':cT} {w w':World} {a:List Deferred} {b:List nJ} (h:mS κ w a b) (le:Le κ w κ' w'):mS κ' w' a b:=by
  induction h with
  | nil=>exact .nil
  | cons h _ ih=>
    cases h with
    | mk hc ha=>exact .cons (.mk (hc.mono le) (ha.mono le)) ih
    | col hl hv hb=>
      obtain ⟨p',h1,h2,h3,h4⟩:=le.loc _ _ hl
      have:=h4.one hv
      subst this
      exact .cons (.col h1 hv hb) ih
theorem lf.mono [aT] {κ κ':cT} {w w':World} {σ:Fr} {n:Nat} {a:Act} (h:lf κ w σ n a) (le:Le κ w κ' w'):lf κ' w' σ n a:=
  ⟨h.size,fun i=>(h.env i).mono le,h.defs.mono le,h.mN.mono le⟩
theorem lf.put [aT] {κ:cT} {w:World} {σ:Fr} {n:Nat} {a:Act} (h:lf κ w σ n a) (dst:Option Tmp) (hd:∀t,dst=some t→t<n) {v:Value} {d:D} (r:cL κ w v d):lf κ w (σ.put dst d) n (a.put dst v):=by
  cases dst with
  | none=>exact h
  | some t=>
    have ht:=hd t rfl
    refine ⟨by simp [Act.put,h.size],fun i=>?_,h.defs,h.mN⟩
    by_cases e:i=t
    · subst e
      have:i<a.tmps.size:=by rw [h.size]; exact ht
      simpa [Act.put,Array.getD_eq_getD_getElem?,this] using r
    · have e':t≠i:=fun x=>e x.symm
      simpa [Act.put,Array.getD_eq_getD_getElem?,Array.getElem?_setIfInBounds_ne e',e] using h.env i
theorem lf.forget [aT] {κ:cT} {w:World} {σ:Fr} {n:Nat} {a:Act} (h:lf κ w σ n a):lf κ w σ.forget n a:=⟨h.size,fun _=>.undef _,h.defs,h.mN⟩
theorem bG [aT] {κ:cT} {w:World} {σ:Fr} {n:Nat} {a:Act} (h:lf κ w σ n a) {x:Operand} {y:iC} (e:lz x=some y):cL κ w (a.eval x) (σ.ev y):=by
  cases x with
  | tmp t=>simp [lz] at e; subst e; exact h.env t
  | const v=>
    simp only [lz,Option.map_eq_some_iff] at e
    obtain ⟨d,e1,rfl⟩:=e
    exact Gm e1
  | func f=>
    simp [lz] at e
    subst e
    exact .func (by rfl) (by rfl) (fun i d hd=>by simp at hd) (fun i d hd=>by simp at hd)
  | global g=>
    simp only [lz,Option.map_eq_some_iff] at e
    obtain ⟨ds,e1,rfl⟩:=e
    exact h.mN.rep e1
theorem mq [aT] {κ:cT} {w:World} {σ:Fr} {n:Nat} {a:Act} (h:lf κ w σ n a):∀{l:List Operand} {ys:List iC},qR l=some ys→cn κ w (l.map a.eval) (ys.map σ.ev)
  | [],ys,e=>by simp [qR] at e; subst e; exact .nil
  | x::l,ys,e=>by
    simp only [qR,List.mapM_cons,Option.bind_eq_bind,Option.bind_eq_some_iff] at e
    obtain ⟨y,e1,ys',e2,e3⟩:=e
    cases e3
    exact .cons (bG h e1) (mq h e2)
def fieldsOf (P:Program) (t:TypeId):Option (Array Field):=
  match P.underlying t with
  | some (.struct fs)=>some fs
  | _=>none
def cw (P:Program) (t:TypeId):Option Nat:=(P.info? t).map (·.size)
def ji (P:Program) (t:TypeId):Option Nat:=(P.info? t).map (·.bytes)
def ic (P:Program) (t:TypeId):Option D:=(P.info? t).bind fun i=>i.zero.bind TQ
def shapeOf (P:Program) (t:TypeId):Option (Option Nat):=
  match P.underlying t,cw P t with
  | some (.struct _),some n=>some (some n)
  | some (.array _ _),some n=>some (some n)
  | some _,some n=>if n=1 then some none else none
  | _,_=>none
def qB (P:Program) (t:TypeId):Option TypeId:=
  match P.underlying t with
  | some (.slice e)=>some e
  | _=>none
def He (P:Program) (t:TypeId):Option ET:=
  match P.underlying t with
  | some .bool=>some .bool
  | some (.pointer _)=>some .ptr
  | some (.slice _)=>some .slnil
  | some (.func _ _ _)=>some .yQ
  | some (.interface _)=>some .iface
  | some (.array n e)=>match P.underlying e with
    | some (.int _)=>if P.eqGuardType P.depth t=false∧P.cellsOf e=1∧(P.info? e).isSome=true then some (.array n .Z_) else none
    | _=>none
  | _=>none
def abU (P:Program) (t:TypeId):Bool:=
  match P.underlying t with
  | some (.int _) | some .string | some (.float _)=>true
  | _=>false
def SM (P:Program) (t:TypeId) (b:iC):Bool:=
  match P.underlying t,b with
  | some (.slice _),.c .aZ=>true
  | _,_=>false
def kV:Operand→Bool
  | .const _=>true
  | _=>false
def Sc (P:Program) (s d:TypeId):Option CK:=
  match P.underlying s,P.underlying d with
  | some (.int _),some (.int k)=>some (.qJ k)
  | some (.int _),some (.float .f64)=>some .uh
  | some (.float .f64),some (.int k)=>some (.Ah k)
  | some (.float .f64),some (.float .f64)=>some .tb
  | some .string,some .string=>some .same
  | some .string,some (.slice e)=>match P.underlying e with
    | some (.int .u8)=>some .ld
    | _=>none
  | some (.slice e),some .string=>match P.underlying e with
    | some (.int .u8)=>some .eX
    | _=>none
  | _,_=>none
def partsOf [aT] (P:Program) (fs:Array Field):List (Nat×Operand)→Option (List (Nat×Nat×iC))
  | []=>some []
  | (i,x)::ps=>match fs[i]?,lz x,partsOf P fs ps with
    | some f,some y,some qs=>(cw P f.type).map fun n=>(f.offset,n,y)::qs
    | _,_,_=>none
def qV [aT] (sz:Nat):List (Nat×Operand)→Option (List (Nat×Nat×iC))
  | []=>some []
  | (i,x)::ps=>match lz x,qV sz ps with
    | some y,some qs=>some ((i*sz,sz,y)::qs)
    | _,_=>none
def qX [aT]:List (Nat×Operand)→Option (List (Nat×iC))
  | []=>some []
  | (i,x)::ps=>match lz x,qX ps with
    | some y,some qs=>some ((i,y)::qs)
    | _,_=>none
def ahX (P:Program) (t:TypeId):Bool:=
  match P.underlying t with
  | some (.float _)=>true
  | _=>false
def km [aT] (P:Program) (zr quiet:Bool) (o:Oper):Option (cf iC):=
  match o.op with
  | .move x | .assign x=>(lz x).map .cB
  | .pick c a b=>match lz c,lz a,lz b with
    | some c,some a,some b=>some (.pick c a b)
    | _,_,_=>none
  | .alloc t=>(ic P t).map fun d=>.alloc (cellsD d)
  | .box t x=>(lz x).map .box
  | .build t ps=>match P.underlying t,ic P t with
    | some (.struct fs),some z=>if fs.toList.all (fun f=>(cw P f.type).isSome)=true then (partsOf P fs ps.toList).map fun qs=>.build (cellsD z) qs else none
    | some (.array _ e),some z=>match cw P e with
      | some sz=>(qV sz ps.toList).map fun qs=>.build (cellsD z) qs
      | none=>none
    | _,_=>none
  | .buildSlice t n ps=>match qB P t with
    | some e=>match cw P e,ic P e with
      | some sz,some z=>if n*sz≤16777216∧(cellsD z).length=sz∧0<sz then (qX ps.toList).map fun qs=>.buildSlice sz (cellsD z) n qs zr else none
      | _,_=>none
    | none=>none
  | .load t x=>match shapeOf P t,lz x with
    | some n,some y=>some (.load n y)
    | _,_=>none
  | .store t x v=>match shapeOf P t,cw P t,lz x,lz v with
    | some _,some n,some y,some u=>some (.store n y u)
    | _,_,_,_=>none
  | .nilCheck x=>(lz x).map .nilCheck
  | .binOp op t x y _=>match lz x,lz y with
    | some a,some b=>match op with
      | .eql=>if abU P t then some (.bin .eql a b) else if SM P t b then some (.isNil false a) else if kV x || kV y then (He P t).map fun e=>.eql e false a b else if He P t matches some .iface then none else (He P t).map fun e=>.eql e false a b
      | .neq=>if abU P t then some (.bin .neq a b) else if SM P t b then some (.isNil true a) else if kV x || kV y then (He P t).map fun e=>.eql e true a b else if He P t matches some .iface then none else (He P t).map fun e=>.eql e true a b
      | op=>if (f_ op && ahX P t)=true then some (.kA op a b) else some (.bin op a b)
    | _,_=>none
  | .unOp op _ x=>(lz x).map (.un op)
  | .convert s d x=>match Sc P s d,lz x with
    | some c,some y=>some (.conv c y)
    | _,_=>none
  | .sliceToArrayPointer t x=>match P.underlying t,lz x with
    | some (.array n _),some y=>some (.zq n y)
    | _,_=>none
  | .makeInterface t x=>match P.underlying t with
    | some (.interface _)=>none
    | some _=>(lz x).map (.nf t)
    | none=>none
  | .makeFunc fn a b=>match qR a.toList,qR b.toList with
    | some a,some b=>some (.mkFunc fn a b)
    | _,_=>none
  | .slice t x lo hi mx=>match lz x,Ii lo,Ii hi,Ii mx with
    | some x,some lo,some hi,some none=>match P.underlying t with
      | some .string=>some (.slice .str x lo hi none)
      | some (.slice e)=>(cw P e).map fun sz=>.slice (.sl sz) x lo hi none
      | some (.array n e)=>if cw P e=some 1 then some (.slice (.arr n) x lo hi none) else none
      | _=>none
    | _,_,_,_=>none
  | .fieldAddr s x f=>match fieldsOf P s,lz x with
    | some fs,some y=>match fs[f]? with
      | some fd=>match cw P fd.type with
        | some n=>if n≠0 then some (.fieldAddr fd.offset y) else none
        | none=>none
      | none=>none
    | _,_=>none
  | .field s x f=>match fieldsOf P s,lz x with
    | some fs,some y=>match fs[f]? with
      | some fd=>(shapeOf P fd.type).map fun n=>.field fd.offset n y
      | none=>none
    | _,_=>none
  | .indexAddr t x i=>match lz x,lz i with
    | some x,some i=>match P.underlying t with
      | some (.array n e)=>(cw P e).map fun sz=>.hU n sz x i
      | some (.slice e)=>match cw P e with
        | some sz=>if 0<sz then some (.aS sz x i) else none
        | none=>none
      | _=>none
    | _,_=>none
  | .index t x i=>match lz x,lz i with
    | some x,some i=>match P.underlying t with
      | some (.array n e)=>match cw P e,shapeOf P e with
        | some sz,some k=>some (.vM n sz k x i)
        | _,_=>none
      | some .string=>some (.jS x i)
      | _=>none
    | _,_=>none
  | .extract x i=>(lz x).map fun y=>.extract y i
  | .panic x=>(lz x).map .panic
  | .call c=>match c.callee with
    | .value f=>match lz f,qR c.args.toList with
      | some g,some as=>some (if quiet then .qcall g as else if zr then .callR g as else .call g as)
      | _,_=>none
    | .builtin b=>match b,qR c.args.toList,c.argTypes[0]? with
      | .len,some [x],some t=>match P.underlying t with
        | some .string=>some (.len .str x)
        | some (.slice _)=>some (.len .sl x)
        | some (.array n _)=>some (.len (.arr n) x)
        | _=>none
      | .min,some [x,y],_=>some (.qN false x y)
      | .max,some [x,y],_=>some (.qN true x y)
      | .append,some [s,x],some t=>match qB P t,c.argTypes.toList with
        | some e,[_,t2]=>match cw P e,ji P e,ic P e,P.underlying t2 with
          | some sz,some lu,some z,some (.slice _)=>if (cellsD z).length=sz∧0<sz then some (.append sz lu false s x) else none
          | some sz,some lu,some z,some .string=>if (cellsD z).length=sz∧sz=1 then some (.append sz lu true s x) else none
          | _,_,_,_=>none
        | _,_=>none
      | _,_,_=>none
    | _=>none
  | .range t x=>match P.underlying t with
    | some .string=>(lz x).map .pH
    | _=>none
  | .next x b=>match b with
    | true=>(lz x).map .sX
    | false=>none
  | .typeAssert x xt t ok=>match P.underlying t with
    | some (.interface _)=>none
    | some _=>(lz x).map (.typeAssert t ok .undef)
    | none=>none
  | .makeSlice t l c=>match qB P t,lz l,lz c with
    | some e,some l,some c=>match cw P e,ji P e,ic P e with
      | some sz,some lu,some z=>if (cellsD z).length=1∧sz=1∧bX z=true∧0<lu then some (.makeSlice sz lu (cellsD z) l c) else none
      | _,_,_=>none
    | _,_,_=>none
  | _=>none
end Go.Proofs.YtpklkpkfgmoghaaGreatDoor.Zz
namespace Go.Proofs.YtpklkpkfgmoghaaGreatDoor.Zz
variable {P:Program} {κ:cT} {h:aa} {w:World} {σ:Fr} {n:Nat} {a:Act}
def fH [aT] (P:Program) (κ:cT) (h:aa) (w:World) (K:D→aa→Prop) (E:D→aa→Prop):Result Next→Prop
 | .ok (.value v) w'=>∃κ' h' d,K d h'∧cL κ' w' v d∧Inv κ' h' w'∧Ev κ h w κ' h' w'
 | .ok .skip w'=>∃κ' h',K .undef h'∧Inv κ' h' w'∧Ev κ h w κ' h' w'
 | .ok (.enter f vs) w'=>Calls P f vs w' fun e EB=>∃o na jt,cY.to K E o na∧lh jt EB o e∧Inv jt na EB∧Ev κ h w jt na EB
 | .ok (.round l f tmps assign body) w'=>RoundIn Fence.wide 0 P l f tmps assign body w' fun e EB=>∃o na jt,cY.to K E o na∧lh jt EB o e∧Inv jt na EB∧Ev κ h w jt na EB
 | .halt (.panic v) w'=>∃κ' h' d,E d h'∧cL κ' w' v d∧Inv κ' h' w'∧Ev κ h w κ' h' w'
 | _=>False
variable {K E:D→aa→Prop}
theorem fH.val [aT] (hi:Inv κ h w) {v:Value} {d:D} (hk:K d h) (r:cL κ w v d):fH P κ h w K E (.ok (.value v) w):=⟨κ,h,d,hk,r,hi,Ev.refl κ h w⟩
theorem run_typeInfo {t:TypeId} {i:TypeInfo} (e:P.info? t=some i) (w:World):(typeInfo t).run P w=.ok i w:=by simp [typeInfo,e]
theorem run_sizeOf {t:TypeId} {k:Nat} (e:cw P t=some k) (w:World):(sizeOf t).run P w=.ok k w:=by
 unfold cw at e
 cases e1:P.info? t with
 | none=>simp [e1] at e
 | some i=>simp [e1] at e; simp [sizeOf,run_typeInfo e1,e]
theorem sW {t:TypeId} {d:D} (e:ic P t=some d) (κ:cT) (w:World):∃v,(zeroValue t).run P w=.ok v w∧cL κ w v d∧∃i,P.info? t=some i∧i.zero=some v:=by
 unfold ic at e
 cases e1:P.info? t with
 | none=>simp [e1] at e
 | some i=>
  cases e2:i.zero with
  | none=>simp [e1,e2] at e
  | some v=>
   simp [e1,e2] at e
   exact ⟨v,by simp [zeroValue,run_typeInfo e1,e2],Gm e,i,rfl,e2⟩
theorem re {t:TypeId} {k:Nat} (e:shapeOf P t=some (some k)) (w:World):(isAgg t).run P w=.ok true w∧cw P t=some k:=by
 unfold shapeOf at e
 split at e
 ·rename_i fs m e1 e2; simp at e; subst e; exact ⟨by simp [isAgg,run_underlying e1],e2⟩
 ·rename_i l el m e1 e2; simp at e; subst e; exact ⟨by simp [isAgg,run_underlying e1],e2⟩
 ·split at e<;>simp at e
 ·simp at e
theorem rb {t:TypeId} (e:shapeOf P t=some none) (w:World):(isAgg t).run P w=.ok false w∧cw P t=some 1:=by
 unfold shapeOf at e
 split at e
 ·simp at e
 ·simp at e
 ·rename_i d m e1 e2 h1 h2
  split at e
  ·rename_i hm
   subst hm
   refine ⟨?_,h2⟩
   cases d<;>first | (simp [isAgg,run_underlying h1]; done) | simp_all
  ·simp at e
 ·simp at e
theorem r9 {v:Value} {d:D} (r:cL κ w v d) (hd:d≠.undef):cn κ w v.cells.toList (cellsD d):=by
 cases r with
 | undef=>exact absurd rfl hd
 | agg hs hr=>exact cn.jC hs hr
 | _=>exact .cons (by first | exact .bool _ | exact .int _ _ | exact .float _ _ | exact .str _ ‹_› | exact .iR | exact .aZ | exact .slnil ‹_› | exact .gf | exact .gX | exact .kC | (constructor<;>assumption)) .nil
theorem w_ {v:Value} {d:D} (r:cL κ w v d) (hd:bX d=true):v.oneCell'=true∧v.cells= #[v]:=by
 cases r<;>first | (simp [bX] at hd; done) | exact ⟨rfl,rfl⟩
end Go.Proofs.YtpklkpkfgmoghaaGreatDoor.Zz
