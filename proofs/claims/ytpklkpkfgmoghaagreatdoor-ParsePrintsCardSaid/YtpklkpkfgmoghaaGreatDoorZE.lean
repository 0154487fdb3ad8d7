/- Frames; the compact form of code; what each instruction asks. -/
import Derived.Laws.FloatArith
import Derived.RangeFuncLeaves
import Derived.OrdersIn
import Derived.RangeFuncIn
import Derived.Test.YtpklkpkfgmoghaaGreatDoorZB
import Derived.Laws.Entries
import Derived.Laws.Cells
set_option linter.unnecessarySimpa false
set_option linter.unusedVariables false
set_option linter.unusedSimpArgs false
namespace Go.Proofs.YtpklkpkfgmoghaaGreatDoor.Zz
structure lv where
 fn:Fn
 cap:List D
 args:List D
structure Fr where
 env:Nat→D
 defs:List lv
def Fr.put (σ:Fr) (d:Option Nat) (x:D):Fr:=
 match d with
 | some t=>{ σ with env:=fun i=>if i=t then x else σ.env i }
 | none=>σ
def Fr.forget (σ:Fr):Fr:={ env:=fun _=>.undef,defs:=σ.defs }
@[simp] theorem Fr.n9 (σ:Fr) (t:Nat) (x:D) (i:Nat):(σ.put (some t) x).env i=if i=t then x else σ.env i:=rfl
@[simp] theorem Fr.D5 (σ:Fr) (x:D):σ.put none x=σ:=rfl
@[simp] theorem Fr.D4 (σ:Fr) (d:Option Nat) (x:D):(σ.put d x).defs=σ.defs:=by cases d<;>rfl
@[simp] theorem Fr.T9 (σ:Fr):σ.forget.defs=σ.defs:=rfl
@[simp] theorem Fr.V4 (σ:Fr) (d:Option Nat) (x:D):(σ.put d x).forget=σ.forget:=by simp [Fr.forget]
theorem Fr.ext {σ τ:Fr} (h1:∀i,σ.env i=τ.env i) (h2:σ.defs=τ.defs):σ=τ:=by
 cases σ; cases τ
 simp only [Fr.mk.injEq]
 exact ⟨funext h1,h2⟩
def gQ:List (Nat×D)→Nat→D
 | [],_=>.undef
 | (j,d)::l,i=>if i=j then d else gQ l i
def Bx (l:List (Nat×D)):Fr:={ env:=gQ l,defs:=[] }
def zy (l:List (Nat×D)) (ds:List lv):Fr:={ env:=gQ l,defs:=ds }
inductive f7 where
 | t (n:Nat)
 | c (d:D)
 | f (k:Nat)
def Fr.ev (σ:Fr):f7→D
 | .t n=>σ.env n
 | .c d=>d
 | .f k=>.func (.func k) [] []
inductive ET where
 | bool | ptr | slnil | aeo | uT
 | iface
 | struct (fs:List (Nat×ET))   -- offsets of fields that count, one cell each
 | SL
 | array (n:Nat) (e:ET)
inductive CK where
 | nL (k:IntKind) | qQ | vM (k:IntKind) | jE | dW | same | pZ
 deriving DecidableEq
inductive SK where
 | str | sl (sz:Nat) | arr (n:Nat)
inductive LK where
 | str | sl | arr (n:Nat) | map
inductive bM (α:Type) where
 | cy (x:α)
 | pick (c a b:α)
 | alloc (ds:List D)
 | box (x:α)
 | build (zs:List D) (parts:List (Nat×Nat×α))
 | buildSlice (sz:Nat) (zs:List D) (len:Nat) (parts:List (Nat×α)) (vh:Bool)
 | load (n:Option Nat) (x:α)
 | cT (n:Option Nat) (x b:α)
 | lN (f:FuncId)
 | store (n:Nat) (x v:α)
 | storeNe (n:Nat) (x v:α) (ys:List α)
 | nilCheck (x:α)
 | bin (op:BinOp) (x y:α)
 | iW (op:BinOp) (x y:α)
 | eql (t:ET) (neg:Bool) (x y:α)
 | un (op:UnOp) (x:α)
 | conv (c:CK) (x:α)
 | vg (n:Nat) (x:α)
 | slice (k:SK) (x:α) (lo hi mx:Option α)
 | fieldAddr (off:Nat) (x:α)
 | field (off:Nat) (n:Option Nat) (x:α)
 | fL (len sz:Nat) (x i:α)
 | a8 (sz:Nat) (x i:α)
 | sw (len sz:Nat) (n:Option Nat) (x i:α)
 | ic (x i:α)
 | extract (x:α) (i:Nat)
 | mw (t:TypeId) (x:α)
 | mkFunc (fn:Fn) (first cap:List α)
 | len (k:LK) (x:α)
 | p7 (k:LK) (x:α)
 | nR (mx:Bool) (x y:α)
 | append (sz bytes:Nat) (str:Bool) (s x:α)
 | makeSlice (sz bytes:Nat) (zs:List D) (len cap:α)
 | call (f:α) (args:List α)
 | callR (f:α) (args:List α)
 | callNe (f:α) (args ys:List α)
 | appendA (sz bytes:Nat) (str:Bool) (s x:α) (ys:List α)
 | kz (n:Nat) (x v:α)
 | iw (n:Nat) (x v:α)
 | qcall (f:α) (args:List α)
 | panic (x:α)
 | defer (f:α) (args:List α)
 | typeAssert (t:TypeId) (ok:Bool) (zs:D) (x:α)
 | makeMap
 | lookup (z:D) (ok:Bool) (m k:α)
 | mapUpdate (m k v:α)
 | delete (m k:α)
 | isNil (neg:Bool) (x:α)
 | mK (x:α)
 | pN (x:α)
def bM.map {α β:Type} (g:α→β):bM α→bM β
 | .cy x=>.cy (g x)
 | .pick c a b=>.pick (g c) (g a) (g b)
 | .alloc ds=>.alloc ds
 | .box x=>.box (g x)
 | .build zs ps=>.build zs (ps.map fun p=>(p.1,p.2.1,g p.2.2))
 | .buildSlice sz zs n ps r=>.buildSlice sz zs n (ps.map fun p=>(p.1,g p.2)) r
 | .load n x=>.load n (g x)
 | .cT n x b=>.cT n (g x) (g b)
 | .lN f=>.lN f
 | .store n x v=>.store n (g x) (g v)
 | .storeNe n x v ys=>.storeNe n (g x) (g v) (ys.map g)
 | .nilCheck x=>.nilCheck (g x)
 | .bin op x y=>.bin op (g x) (g y)
 | .iW op x y=>.iW op (g x) (g y)
 | .eql t n x y=>.eql t n (g x) (g y)
 | .un op x=>.un op (g x)
 | .conv c x=>.conv c (g x)
 | .vg n x=>.vg n (g x)
 | .slice k x lo hi mx=>.slice k (g x) (lo.map g) (hi.map g) (mx.map g)
 | .fieldAddr o x=>.fieldAddr o (g x)
 | .field o n x=>.field o n (g x)
 | .fL l s x i=>.fL l s (g x) (g i)
 | .a8 s x i=>.a8 s (g x) (g i)
 | .sw l s n x i=>.sw l s n (g x) (g i)
 | .ic x i=>.ic (g x) (g i)
 | .extract x i=>.extract (g x) i
 | .mw t x=>.mw t (g x)
 | .mkFunc fn a b=>.mkFunc fn (a.map g) (b.map g)
 | .len k x=>.len k (g x)
 | .p7 k x=>.p7 k (g x)
 | .nR m x y=>.nR m (g x) (g y)
 | .append sz b t s x=>.append sz b t (g s) (g x)
 | .makeSlice sz b zs l c=>.makeSlice sz b zs (g l) (g c)
 | .call f as=>.call (g f) (as.map g)
 | .callR f as=>.callR (g f) (as.map g)
 | .callNe f as ys=>.callNe (g f) (as.map g) (ys.map g)
 | .appendA sz b t s x ys=>.appendA sz b t (g s) (g x) (ys.map g)
 | .kz n x v=>.kz n (g x) (g v)
 | .iw n x v=>.iw n (g x) (g v)
 | .qcall f as=>.qcall (g f) (as.map g)
 | .panic x=>.panic (g x)
 | .defer f as=>.defer (g f) (as.map g)
 | .typeAssert t ok z x=>.typeAssert t ok z (g x)
 | .makeMap=>.makeMap
 | .lookup z ok m k=>.lookup z ok (g m) (g k)
 | .mapUpdate m k v=>.mapUpdate (g m) (g k) (g v)
 | .delete m k=>.delete (g m) (g k)
 | .isNil n x=>.isNil n (g x)
 | .mK x=>.mK (g x)
 | .pN x=>.pN (g x)
def dZ (op:BinOp) (k:IntKind) (x y:Int):Option D:=
 match op with
 | .add=>some (.int k (k.wrap (x+y)))
 | .sub=>some (.int k (k.wrap (x - y)))
 | .mul=>some (.int k (k.wrap (x*y)))
 | .quo=>if y=0 then none else some (.int k (k.wrap (x.tdiv y)))
 | .rem=>if y=0 then none else some (.int k (x.tmod y))
 | .and=>some (.int k (k.wrap (BitVec.ofInt k.bits x &&& BitVec.ofInt k.bits y).toNat))
 | .or=>some (.int k (k.wrap (BitVec.ofInt k.bits x ||| BitVec.ofInt k.bits y).toNat))
 | .xor=>some (.int k (k.wrap (BitVec.ofInt k.bits x ^^^ BitVec.ofInt k.bits y).toNat))
 | .andNot=>some (.int k (k.wrap (BitVec.ofInt k.bits x &&& ~~~ BitVec.ofInt k.bits y).toNat))
 | .eql=>some (.bool (x==y))
 | .neq=>some (.bool (x != y))
 | .lss=>some (.bool (decide (x<y)))
 | .leq=>some (.bool (decide (x≤y)))
 | .gtr=>some (.bool (decide (x>y)))
 | .geq=>some (.bool (decide (x≥y)))
 | _=>none
def ye (op:BinOp) (k:IntKind) (x y:Int):Option D:=
 if y<0 then none else
 match op with
 | .shl=>some (.int k (k.wrap (x*2 ^ (min y.toNat k.bits))))
 | .shr=>some (.int k (x.fdiv (2 ^ (min y.toNat k.bits))))
 | _=>none
def hY (op:BinOp) (a b:List UInt8):Option D:=
 match op with
 | .add=>if a.length+b.length≤9223372036854775807 then some (.str (a++b)) else none
 | .eql=>some (.bool (a==b))
 | .neq=>some (.bool (!(a==b)))
 | .lss=>some (.bool (Op.bytesLess a b))
 | .leq=>some (.bool (Op.bytesLess a b || a==b))
 | .gtr=>some (.bool (!(Op.bytesLess a b || a==b)))
 | .geq=>some (.bool (!(Op.bytesLess a b)))
 | _=>none
def jr (op:BinOp) (k:FloatKind) (a b:Nat):Option D:=
 match op with
 | .eql=>some (.bool (k.format.order a b==some .eq))
 | .neq=>some (.bool (k.format.order a b != some .eq))
 | .lss=>some (.bool (k.format.order a b==some .lt))
 | .leq=>some (.bool (k.format.order a b==some .lt || k.format.order a b==some .eq))
 | .gtr=>some (.bool (k.format.order a b==some .gt))
 | .geq=>some (.bool (k.format.order a b==some .gt || k.format.order a b==some .eq))
 | _=>none
def jP (op:BinOp):D→D→Option D
 | .int k a,.int k' b=>match op with
  | .shl=>ye .shl k a b
  | .shr=>ye .shr k a b
  | _=>if k=k' then dZ op k a b else none
 | .str a,.str b=>hY op a b
 | .float k a,.float k' b=>if k=k' then jr op k a b else none
 | _,_=>none
def me (op:UnOp):D→Option D
 | .int k n=>match op with
  | .neg=>some (.int k (k.wrap (0 - n)))
  | .xor=>some (.int k (k.wrap (BitVec.ofInt k.bits (if k.signed then -1 else k.max) ^^^ BitVec.ofInt k.bits n).toNat))
  | _=>none
 | .bool b=>match op with
  | .not=>some (.bool (!b))
  | _=>none
 | .float k b=>match op with
  | .neg=>some (.float k (Op.negFloat k b))
  | _=>none
 | _=>none
def bZ:D→List D
 | .agg ds=>ds
 | d=>[d]
def cf:D→Bool
 | .undef | .agg _ | .tuple _=>false
 | _=>true
def setAt (cs:List D) (off:Nat):List D→List D
 | []=>cs
 | d::ds=>setAt (cs.set off d) (off+1) ds
def gz (ds:List D) (off:Nat):Option Nat→Option D
 | none=>ds[off]?
 | some n=>if off+n≤ds.length then some (.agg ((ds.drop off).take n)) else none
def ia (zs:List D):List (Nat×Nat×D)→Option (List D)
 | []=>some zs
 | (off,sz,d)::ps=>if (bZ d).length=sz∧off+sz≤zs.length∧(bZ d).all cf=true then ia (setAt zs off (bZ d)) ps else none
def rowsOf (sz:Nat) (zs:List D) (n:Nat):List (List D):=List.replicate n zs
def ew (sz:Nat):List (List D)→List (Nat×D)→Option (List (List D))
 | xs,[]=>some xs
 | xs,(i,d)::ps=>if (bZ d).length=sz∧i<xs.length∧(bZ d).all cf=true then ew sz (xs.set i (bZ d)) ps else none
def fc:D→D
 | .bg=>.sl []
 | d=>d
def isNil:D→Bool
 | .bg=>true
 | _=>false
def pG (zs:List D) (xs:List (List D)):List (List D):=bif zs.any isNil then xs.map (List.map fc) else xs
def byteOf:List D→UInt8
 | [.int _ n]=>UInt8.ofNat n.toNat
 | _=>0
def isByte:List D→Bool
 | [.int .u8 _]=>true
 | _=>false
def eP (s:List UInt8):List (List D):=s.map fun b=>[.int .u8 (b.toNat:Int)]
def cO (h:aa):D→Option (List (List D))
 | .bg=>some []
 | .sl xs=>some xs
 | .row r aR off len=>match h.f r with
  | some (.row sz bW xs fz)=>if aR=bW∧off+len≤xs.length then some ((xs.drop off).take len) else none
  | _=>none
 | .r7 id off len=>match h.f id with
  | some (.cells ds)=>if off+len≤ds.length then some (((ds.drop off).take len).map fun d=>[d]) else none
  | _=>none
 | _=>none
def plain (h:aa):D→D
 | .bg=>.sl []
 | .row r aR off len=>match h.f r with
  | some (.row sz bW xs fz)=>if aR=bW∧off+len≤xs.length then .sl ((xs.drop off).take len) else .undef
  | _=>.undef
 | .agg ds=>.agg (ds.map fun d=>match d with
   | .bg=>.sl []
   | .row r aR off len=>match h.f r with
    | some (.row sz bW xs fz)=>if aR=bW∧off+len≤xs.length then .sl ((xs.drop off).take len) else .undef
    | _=>.undef
   | d=>d)
 | d=>d
def eB (h:aa) (r:Nat):aa:=
 match h.f r with
 | some (.row sz aR xs _)=>h.set r (.row sz aR xs true)
 | _=>h
def fK (h:aa):D→aa
 | .row r _ _ _=>eB h r
 | .agg ds=>ds.foldl (fun h d=>match d with | .row r _ _ _=>eB h r | _=>h) h
 | _=>h
def ff (h:aa) (ds:List D):aa:=ds.foldl fK h
def eJ (h:aa) (n:Option Nat):D→Option D
 | .ptr id aR off=>match h.f id with
  | some (.cells ds)=>if aR=1 then gz ds off n else none
  | _=>none
 | .c8 cells off=>gz cells off n
 | .eM r aR i f=>match h.f r with
  | some (.row sz bW xs fz)=>if aR=bW then (match xs[i]? with | some x=>gz x f n | none=>none) else none
  | some (.gb sz bW xs f9)=>if aR=bW then (match xs[i]? with | some x=>gz x f n | none=>none) else none
  | _=>none
 | _=>none
def fx (h:aa) (n:Nat) (a v:D):Option aa:=
 if (bZ v).length=n∧(bZ v).all cf=true then
  match a with
  | .ptr id aR off=>match h.f id with
   | some (.cells ds)=>if aR=1∧off+n≤ds.length then some (h.set id (.cells (setAt ds off (bZ v)))) else none
   | _=>none
  | .eM r aR i f=>match h.f r with
   | some (.row sz bW xs false)=>if aR=bW then (match xs[i]? with | some x=>if f+n≤x.length then some (h.set r (.row sz bW (xs.set i (setAt x f (bZ v))) false)) else none | none=>none) else none
   | _=>none
  | _=>none
 else none
def gh (x y:D):Bool:=
 match x,y with
 | .ptr i _ _,.ptr j _ _ | .ptr i _ _,.eM j _ _ _ | .eM i _ _ _,.ptr j _ _ | .eM i _ _ _,.eM j _ _ _=> !(i==j)
 | _,.c8 .. =>true
 | _,_=>false
def eu (x y:D):Bool:=
 match x,y with
 | .c8 ..,_=>true
 | .ptr i _ _,.ptr j _ _ | .ptr i _ _,.eM j _ _ _ | .eM i _ _ _,.ptr j _ _ | .eM i _ _ _,.eM j _ _ _=>i==j
 | _,_=>false
def nM:D→Option Int
 | .int _ n=>some n
 | _=>none
def bounds (n:Nat) (lo hi:Option D):Option (Nat×Nat):=
 match (match lo with | none=>some 0 | some d=>nM d),(match hi with | none=>some (n:Int) | some d=>nM d) with
 | some l,some u=>if 0≤l∧l≤u∧u≤n then some (l.toNat,u.toNat) else none
 | _,_=>none
def iv (k:SK) (x:D) (lo hi mx:Option D):Option D:=
 match mx with
 | some _=>none
 | none=>
  match k,x with
  | .str,.str s=>(bounds s.length lo hi).map fun b=>.str ((s.drop b.1).take (b.2 - b.1))
  | .sl sz,.sl xs=>if ∀y∈xs,y.length=sz then (bounds xs.length lo hi).map fun b=>.sl ((xs.drop b.1).take (b.2 - b.1)) else none
  | .arr n,.ptr id aR off=>if aR=1∧n≤9223372036854775807 then (bounds n lo hi).map fun b=>.r7 id (off+b.1) (b.2 - b.1) else none
  | _,_=>none
def vJ:List D→List D→Option Bool
 | [],[]=>some true
 | .int k a::xs,.int k' b::ys=>if k=k' then (if a==b then vJ xs ys else some false) else none
 | _,_=>none
def iK:ET→D→D→Option Bool
 | .bool,.bool a,.bool b=>some (a==b)
 | .ptr,.gg,.gg=>some true
 | .ptr,.ptr ..,.gg=>some false
 | .ptr,.gg,.ptr .. =>some false
 | .slnil,.bg,.bg=>some true
 | .uT,.func ..,.eU=>some false
 | .uT,.eU,.eU=>some true
 | .iface,.fV,.fV=>some true
 | .iface,.iface ..,.fV=>some false
 | .iface,.fV,.iface .. =>some false
 | .array n .SL,.agg a,.agg b=>if a.length=n∧b.length=n then vJ a b else none
 | _,_,_=>none
def bo:bM D→Option D
 | .cy x=>some x
 | .build zs ps=>(ia zs ps).map .agg
 | .nilCheck x=>match x with
  | .ptr .. | .c8 .. | .eM .. | .func (.func _) _ _=>some x
  | _=>none
 | .bin op x y=>jP op x y
 | .eql t neg x y=>(iK t x y).map fun b=>.bool (if neg then !b else b)
 | .un op x=>me op x
 | .conv c x=>match c,x with
  | .nL k,.int _ n=>some (.int k (k.wrap n))
  | .qQ,.int _ n=>some (.float .f64 (FloatKind.f64.nearest n))
  | .same,.str s=>some (.str s)
  | .vM k,.float .f64 b=>(xX .f64 b k).map (.int k)
  | .pZ,.float .f64 b=>some (.float .f64 b)
  | _,_=>none
 | .vg n x=>match x with
  | .r7 id off len=>if 0<n∧n≤len then some (.ptr id 1 off) else none
  | _=>none
 | .slice k x lo hi mx=>iv k x lo hi mx
 | .fieldAddr o x=>match x with
  | .ptr id aR off=>some (.ptr id aR (off+o))
  | .c8 cs off=>some (.c8 cs (off+o))
  | .eM r aR i f=>some (.eM r aR i (f+o))
  | _=>none
 | .field o n x=>match x with
  | .agg ds=>gz ds o n
  | _=>none
 | .fL len sz x i=>match x,i with
  | .ptr id aR off,.int _ i=>if 0≤i∧i<len then some (.ptr id aR (off+i.toNat*sz)) else none
  | .c8 cs off,.int _ i=>if 0≤i∧i<len then some (.c8 cs (off+i.toNat*sz)) else none
  | .eM r aR j f,.int _ i=>if 0≤i∧i<len then some (.eM r aR j (f+i.toNat*sz)) else none
  | _,_=>none
 | .a8 sz x i=>match x,i with
  | .sl xs,.int _ i=>if 0≤i then (match xs[i.toNat]? with | some x=>if x.length=sz then some (.c8 x 0) else none | none=>none) else none
  | .r7 id off len,.int _ i=>if 0≤i∧i<len∧sz=1 then some (.ptr id 1 (off+i.toNat)) else none
  | _,_=>none
 | .sw len sz n x i=>match x,i with
  | .agg ds,.int _ i=>if 0≤i∧i<len then gz ds (i.toNat*sz) n else none
  | _,_=>none
 | .ic x i=>match x,i with
  | .str s,.int _ i=>if 0≤i then (match s[i.toNat]? with | some b=>some (.int .u8 (b.toNat:Int)) | none=>none) else none
  | _,_=>none
 | .extract x i=>match x with
  | .tuple ds=>ds[i]?
  | _=>none
 | .mw t x=>some (.iface t x)
 | .mkFunc fn a b=>some (.func fn a b)
 | .nR mx x y=>match x,y with
  | .int k a,.int _ b=>some (.int k (if mx then (if a<b then b else a) else (if b<a then b else a)))
  | _,_=>none
 | _=>none
def cK (h:aa):bM D→Option D
 | .load n x=>eJ h n x
 | .conv c x=>match c with
  | .dW=>match cO h x with
   | some xs=>if xs.all isByte=true then some (.str (xs.map byteOf)) else none
   | none=>none
  | _=>none
 | .slice k x lo hi mx=>match k,x,mx with
  | .sl sz,.row r aR off len,none=>match h.f r with
   | some (.row gS bW xs fz)=>if gS=sz∧bW=aR then (bounds len lo hi).map fun b=>.row r aR (off+b.1) (b.2 - b.1) else none
   | _=>none
  | _,_,_=>none
 | .a8 sz x i=>match x,i with
  | .row r aR off len,.int _ i=>match h.f r with
   | some (.row gS bW xs fz)=>if gS=sz∧bW=aR∧0≤i∧i<len then some (.eM r aR (off+i.toNat) 0) else none
   | some (.gb gS bW xs f9)=>if gS=sz∧bW=aR∧0≤i∧i<len then some (.eM r aR (off+i.toNat) 0) else none
   | _=>none
  | _,_=>none
 | _=>none
inductive dF where
 | ret (d:D)
 | panic (d:D)
inductive jH (κ:cp) (w:World):dF→Ending→Prop
 | ret {d:D} {v:Value} (h:cd κ w v d):jH κ w (.ret d) (.returned v)
 | panic {d:D} {v:Value} (h:cd κ w v d):jH κ w (.panic d) (.panicked [{ v,recovered:=false }])
inductive bP (κ:cp) (w:World):List Value→List D→Prop
 | nil:bP κ w [] []
 | cons {v:Value} {d:D} {vs:List Value} {ds:List D} (h:cd κ w v d) (t:bP κ w vs ds):bP κ w (v::vs) (d::ds)
def fi (P:Program) (f:FuncId):Bool:=
 match P.funcs[f]? with
 | some fn=> !(fn.name== "runtime.NumGoroutine") && fn.body.isSome
 | none=>false
def dF.to (K:D→aa→Prop) (E:D→aa→Prop):dF→aa→Prop
 | .ret d,h=>K d h
 | .panic d,h=>E d h
def aQ [aN] (P:Program) (f:FuncId) (args:List D) (h:aa) (R:dF→aa→Prop):Prop:=
 fi P f=true∧∀(κ:cp) (w:World) (vs:Array Value),Inv κ h w→bP κ w vs.toList args→
  Calls P f vs w fun e w'=>∃o h' κ',R o h'∧jH κ' w' o e∧Inv κ' h' w'∧Ev κ h w κ' h' w'
def aO [aN] (P:Program) (f:FuncId) (args:List D) (d:D):Prop:=aQ P f args .emp fun o _=>o=.ret d
structure bm where
 q:FuncId→List D→Option D
 a:FuncId→Option (List D)
 c:FuncId→List D→aa→(D→aa→Prop)→(D→aa→Prop)→Prop
 mono:∀f args h (K E K' E':D→aa→Prop),(∀d h,K d h→K' d h)→(∀d h,E d h→E' d h)→c f args h K E→c f args h K' E'
 y:Nat→List D→aa→(D→aa→Prop)→Prop
 acd:∀l args h (K K':D→aa→Prop),(∀d h,K d h→K' d h)→y l args h K→y l args h K'
 r:FuncId→Nat→(List D→aa→(D→aa→Prop)→Prop)→List D→aa→(D→aa→Prop)→Prop
 aaO:∀f l Y Y' args h (K K':D→aa→Prop),(∀args h (K K':D→aa→Prop),(∀d h,K d h→K' d h)→Y args h K→Y' args h K')→(∀d h,K d h→K' d h)→r f l Y args h K→r f l Y' args h K'
def cI [aN] (P:Program) (κ:cp) (w:World) (f:FuncId) (args:List D) (h:aa) (R:dF→aa→Prop):Prop:=
 fi P f=true∧∀(vs:Array Value),Inv κ h w→bP κ w vs.toList args→
  Calls P f vs w fun e w'=>∃o h' κ',R o h'∧jH κ' w' o e∧Inv κ' h' w'∧Ev κ h w κ' h' w'
def FX [aN] (P:Program) (κ:cp) (w:World) (l:Nat) (args:List D) (h:aa) (K:D→aa→Prop):Prop:=
 ∀(vs:Array Value),Inv κ h w→bP κ w vs.toList args→
  ∃f tmps assign body,(Instr.yield l vs).run P w=.ok (.round l f tmps assign body) w∧
   RoundIn Fence.wide 0 P l f tmps assign body w fun e w'=>∃o h' κ',dF.to K (fun _ _=>False) o h'∧jH κ' w' o e∧Inv κ' h' w'∧Ev κ h w κ' h' w'
def TX (Y:List D→aa→(D→aa→Prop)→Prop):Prop:=∀args h (K K':D→aa→Prop),(∀d h,K d h→K' d h)→Y args h K→Y args h K'
def vd (P:Program) (f:FuncId) (args:List D) (d:D):Prop:=∀(κ:cp) (w:World) (vs:Array Value),bP κ w vs.toList args→∃v,(callFunc f vs).run P w=.ok (.value v) w∧cd κ w v d
structure bm.nU [aN] (P:Program) (κ:cp) (w:World) (T:bm):Prop where
 q:∀f args d,T.q f args=some d→aO P f args d∨vd P f args d
 a:∀f ds h,T.a f=some ds→aQ P f [] h fun o h'=>∃id,h.f id=none∧o=.ret (.ptr id 1 0)∧h'=h.set id (.cells ds)
 c:∀f args h K E,T.c f args h K E→∀κ' w',Le κ w κ' w'→cI P κ' w' f args h (dF.to K E)
 y:∀l args h K,T.y l args h K→∀κ' w',Le κ w κ' w'→FX P κ' w' l args h K
 r:∀f l Y args h K κ' w',Le κ w κ' w'→TX Y→(∀args h K,Y args h K→∀gP AA,Le κ' w' gP AA→FX P gP AA l args h K)→T.r f l Y args h K→cI P κ' w' f args h (dF.to K fun _ _=>False)
structure bm.ok [aN] (P:Program) (T:bm):Prop where
 q:∀f args d,T.q f args=some d→aO P f args d∨vd P f args d
 a:∀f ds h,T.a f=some ds→aQ P f [] h fun o h'=>∃id,h.f id=none∧o=.ret (.ptr id 1 0)∧h'=h.set id (.cells ds)
 c:∀f args h K E,T.c f args h K E→aQ P f args h (dF.to K E)
 y:∀l args h K,¬T.y l args h K
 r:∀f l Y args h K κ w,TX Y→(∀args h K,Y args h K→∀κ' w',Le κ w κ' w'→FX P κ' w' l args h K)→T.r f l Y args h K→cI P κ w f args h (dF.to K fun _ _=>False)
theorem aQ.at_ [aN] {P:Program} {f:FuncId} {args:List D} {h:aa} {R:dF→aa→Prop} (c:aQ P f args h R) (κ:cp) (w:World):cI P κ w f args h R:=⟨c.1,fun vs=>c.2 κ w vs⟩
theorem bm.ok.toY [aN] {P:Program} {T:bm} (hT:T.ok P) (κ:cp) (w:World):T.nU P κ w:=
 ⟨hT.q,hT.a,fun f args h K E x κ' w' _=>(hT.c f args h K E x).at_ κ' w',fun l args h K x=>absurd x (hT.y l args h K),fun f l Y args h K κ' w' _=>hT.r f l Y args h K κ' w'⟩
theorem Le.trans {κ1 κ2 κ3:cp} {w1 w2 w3:World} (a:Le κ1 w1 κ2 w2) (b:Le κ2 w2 κ3 w3):Le κ1 w1 κ3 w3:=
 ⟨fun x hx=>⟨(b.gJ x (a.gJ x hx).1).1,(b.gJ x (a.gJ x hx).1).2.trans (a.gJ x hx).2⟩,fun id p hp=>by
  obtain ⟨p',h1,h2,h3,h4⟩:=a.loc id p hp
  obtain ⟨p'',k1,k2,k3,k4⟩:=b.loc id p' h1
  refine ⟨p'',k1,Nat.le_trans h2 k2,fun e=>?_,h4.trans k4 h2 h3⟩
  have e1:p'.aR=p.aR:=by omega
  have:=h3 e1
  subst this
  exact k3 e⟩
theorem bm.nU.mono [aN] {P:Program} {T:bm} {κ κ':cp} {w w':World} (hT:T.nU P κ w) (le:Le κ w κ' w'):T.nU P κ' w':=
 ⟨hT.q,hT.a,fun f args h K E x gP AA l=>hT.c f args h K E x gP AA (le.trans l),fun l args h K x gP AA l'=>hT.y l args h K x gP AA (le.trans l'),fun f l Y args h K gP AA l'=>hT.r f l Y args h K gP AA (le.trans l')⟩
def eS:BinOp→Bool
 | .add | .sub | .mul | .quo=>true
 | _=>false
def pO (h:aa) (str:Bool) (x:D):Option (List (List D)):=
 match str,x with
 | true,.str b=>some (eP b)
 | true,_=>none
 | false,x=>cO h x
def f5 (h h':aa):D→Prop
 | .ptr id _ _ | .eM id _ _ _=>h'.f id=h.f id
 | .c8 .. =>True
 | _=>False
def cellAt (h:aa):D→Bool
 | .ptr id _ _=>match h.f id with
  | some (.cells _)=>true
  | _=>false
 | _=>false
def VX (h:aa):D→Option (D×aa)
 | .bg=>some (.bg,h)
 | .row r aR off len=>match h.f r with
  | some (.gb sz cur xs f9)=>if off=0 then (if aR=cur∧len=xs.length then some (.row r aR 0 len,h) else if (aR,len)∈f9 then some (.row r (cur+1) 0 len,h.set r (.gb sz (cur+1) (xs.take len) (f9.filter fun e=>decide (e.1≤aR)))) else none) else none
  | _=>none
 | _=>none
def RT (h:aa):List D→Option (List D×aa)
 | []=>some ([],h)
 | d::ds=>match VX h d with
  | some (d',h1)=>match RT h1 ds with
   | some (Gj,h2)=>some (d'::Gj,h2)
   | none=>none
  | none=>none
def NH (h:aa):D→Option (D×aa)
 | .agg ds=>match RT h ds with
  | some (Gj,h')=>some (.agg Gj,h')
  | none=>none
 | _=>none
def qc (h:aa):D→D
 | .row r aR off len=>match h.f r with
  | some (.row sz bW xs fz)=>if aR=bW∧off+len≤xs.length then .sl (((xs.map (List.map (plain h))).drop off).take len) else .undef
  | _=>.undef
 | d=>plain h d
def Bc (h:aa):D→aa
 | .row r aR off len=>match h.f r with
  | some (.row sz bW xs fz)=>(ff h xs.flatten).set r (.row sz bW (xs.map (List.map (plain h))) true)
  | _=>h
 | d=>fK h d
def scalar:D→Bool
 | .bool _ | .int .. | .float .. | .str _ | .undef=>true
 | _=>false
def fp (d:D) (h h':aa):aa:=bif scalar d then h else h'
def aa.yc (h:aa) (L:List (Nat×cR)):aa:=L.foldr (fun p h=>h.set p.1 p.2) h
def d_ (T:bm) (i:bM D) (h:aa) (K:D→aa→Prop) (E:D→aa→Prop):Prop:=
 match i with
 | .pick c a b=>match c with
  | .bool c=>(c=true→K a h)∧(c=false→K b h)
  | _=>False
 | .alloc ds=>∀id,h.f id=none→K (.ptr id 1 0) (h.set id (.cells ds))
 | .box x=>(bZ x).all cf=true∧∀id,h.f id=none→K (.ptr id 1 0) (h.set id (.cells (bZ x)))
 | .buildSlice sz zs len ps vh=>∃xs,ew sz (rowsOf sz zs len) ps=some xs∧
   (match vh with
    | true=>∀id,h.f id=none→K (.row id (len+2) 0 len) (h.set id (.row sz (len+2) xs false))
    | false=>K (.sl (pG zs xs)) h)
 | .load n x=>∃d,eJ h n x=some d∧K d h
 | .cT n x b=>∃d,(if eu x b=true then eJ h n x else none)=some d∧K d h
 | .lN k=>∃ds,T.a k=some ds∧∀id,h.f id=none→K (.ptr id 1 0) (h.set id (.cells ds))
 | .store n x v=>∃h',fx h n x v=some h'∧K .undef h'
 | .storeNe n x v ys=>ys.all (gh x)=true∧∃h',fx h n x v=some h'∧K .undef h'
 | .conv c x=>match c with
  | .dW=>∃d,cK h (.conv .dW x)=some d∧K d h
  | .jE=>match x with
   | .str s=>K (.sl (eP s)) h
   | _=>False
  | _=>∃d,bo i=some d∧K d h
 | .slice k x lo hi mx=>match x with
  | .row .. =>∃d,cK h (.slice k x lo hi mx)=some d∧K d h
  | _=>∃d,bo (.slice k x lo hi mx)=some d∧K d h
 | .a8 sz x i=>match x with
  | .row .. =>∃d,cK h (.a8 sz x i)=some d∧K d h
  | _=>∃d,bo (.a8 sz x i)=some d∧K d h
 | .len k x=>match k,x with
  | .str,.str s=>s.length≤9223372036854775807→K (.int .i64 (s.length:Int)) h
  | .arr n,_=>K (.int .i64 (n:Int)) h
  | .sl,.bg=>K (.int .i64 0) h
  | .sl,.sl xs=>xs.length≤9223372036854775807→K (.int .i64 (xs.length:Int)) h
  | .sl,.row r aR off len=>len≤9223372036854775807→K (.int .i64 (len:Int)) h
  | .sl,.r7 id off len=>len≤9223372036854775807→K (.int .i64 (len:Int)) h
  | _,_=>False
 | .append sz bytes str s x=>∃ys,pO h str x=some ys∧(∀y∈ys,y.length=sz∧y.all cf=true)∧0<bytes∧
   (match s with
    | .bg=>(ys=[]→K .bg h)∧ys.length*bytes≤140737488355328∧(ys≠[]→∀id,h.f id=none→K (.row id (ys.length+2) 0 ys.length) (h.set id (.row sz (ys.length+2) ys false)))
    | .row r aR off len=>match h.f r with
     | some (.row gS bW xs false)=>aR=bW∧gS=sz∧off=0∧len=xs.length∧(xs.length+ys.length)*bytes≤140737488355328∧
       K (.row r (aR+ys.length) 0 (len+ys.length)) (h.set r (.row sz (aR+ys.length) (xs++ys) false))
     | _=>False
    | _=>False)
 | .makeSlice sz bytes zs l c=>match l,c with
  | .int _ l,.int _ c=>0≤l∧l=c∧l*bytes≤140737488355328∧zs.length=sz∧0<sz∧∀id,h.f id=none→K (.row id (l.toNat+2) 0 l.toNat) (h.set id (.row sz (l.toNat+2) (rowsOf sz zs l.toNat) false))
  | _,_=>False
 | .call f args=>match f with
  | .func (.func k) first cap=>T.c k ((first++args++cap).map (plain h)) (ff h (first++args++cap)) K E
  | .func (.yield l) first cap=>∃h1 L,ff h (first++args)=aa.yc h1 L∧(∀p∈L,h1.f p.1=none)∧
    T.y l ((first++args).map (plain h)) h1 (fun d h'=>(∀p∈L,h'.f p.1=none)→K d (h'.yc L))
  | _=>False
 | .callR f args=>match f with
  | .func (.func k) first cap=>T.c k (first++args++cap) h K E
  | _=>False
 | .callNe f args ys=>match f with
  | .func (.func k) first cap=>T.c k ((first++args++cap).map (plain h)) (ff h (first++args++cap)) (fun d h'=>(∀y∈ys,f5 h h' y)∧K d h') E
  | _=>False
 | .appendA sz bytes str s x zs=>zs.all (cellAt h)=true∧∃ys,pO h str x=some ys∧(∀y∈ys,y.length=sz∧y.all cf=true)∧0<bytes∧
   (match s with
    | .bg=>ys≠[]∧ys.length*bytes≤140737488355328∧∀id,h.f id=none→K (.row id 2 0 ys.length) (h.set id (.gb sz 2 ys []))
    | .row r aR off len=>match h.f r with
     | some (.gb gS bW xs f9)=>ys≠[]∧aR=bW∧gS=sz∧off=0∧len=xs.length∧(xs.length+ys.length)*bytes≤140737488355328∧
       K (.row r (aR+1) 0 (len+ys.length)) (h.set r (.gb sz (aR+1) (xs++ys) ((aR,len)::f9)))
     | some (.row gS bW xs false)=>aR=bW∧gS=sz∧off=0∧len=xs.length∧(xs.length+ys.length)*bytes≤140737488355328∧
       K (.row r (aR+ys.length) 0 (len+ys.length)) (h.set r (.row sz (aR+ys.length) (xs++ys) false))
     | _=>False
    | _=>False)
 | .iw n x v=>∃h',fx (Bc h v) n x (qc h v)=some h'∧K .undef h'
 | .kz n x v=>match NH h v with
  | some (v',h1)=>∃h',fx h1 n x v'=some h'∧K .undef h'
  | none=>False
 | .qcall f args=>match f with
  | .func (.func k) first cap=>∃d,T.q k ((first++args++cap).map (plain h))=some d∧K d (fp d h (ff h (first++args++cap)))
  | _=>False
 | .panic x=>match x with
  | .iface t d=>E (.iface t d) h
  | _=>False
 | .iW op x y=>match x,y with
  | .float .f64 a,.float .f64 b=>eS op=true∧(match gZ op .f64 a b with
   | some r=>K (.float .f64 r) h
   | none=>∀r,FloatKind.f64.format.order r r=none→K (.float .f64 r) h)
  | _,_=>False
 | .isNil neg x=>match x with
  | .bg=>K (.bool (!neg)) h
  | .sl xs=>(xs=[]→K (.bool (!neg)) h)∧K (.bool neg) h
  | .row .. =>K (.bool neg) h
  | _=>False
 | .mK x=>match x with
  | .str s=>∀id,h.f id=none→K (.iter id) (h.set id (.jR s 0))
  | _=>False
 | .pN x=>match x with
  | .iter id=>match h.f id with
   | some (.jR s pos)=>(pos<s.length→K (.tuple [.bool true,.int .i64 (pos:Int),.int .i32 ((Utf8.decode ⟨s.toArray⟩ pos).1:Int)]) (h.set id (.jR s (pos+(Utf8.decode ⟨s.toArray⟩ pos).2))))∧(s.length≤pos→K (.tuple [.bool false]) h)
   | _=>False
  | _=>False
 | .typeAssert t ok z x=>match x with
  | .iface t' d=>t'=t∧K (bif ok then .tuple [d,.bool true] else d) h
  | _=>False
 | .p7 .. | .makeMap | .lookup .. | .mapUpdate .. | .delete .. | .defer .. =>False
 | i=>∃d,bo i=some d∧K d h
end Go.Proofs.YtpklkpkfgmoghaaGreatDoor.Zz
namespace Go.Proofs.YtpklkpkfgmoghaaGreatDoor.Zz
def MW:Value→Option D
  | .bool b=>some (.bool b)
  | .int k n=>some (.int k n)
  | .float k b=>some (.float k b)
  | .string s=>if s.data.toList.length≤9223372036854775807 then some (.str s.data.toList) else none
  | .pointer none=>some .gg
  | .slice none 0 0=>some .bg
  | .nilIface=>some .fV
  | .nilFunc=>some .eU
  | .map none=>some .iY
  | _=>none
def FY:List Value→Option (List D)
  | []=>some []
  | v::vs=>match MW v,FY vs with
    | some d,some ds=>some (d::ds)
    | _,_=>none
def MX:Value→Option D
  | .agg cs=>(FY cs.toList).map .agg
  | v=>MW v
theorem Ca {κ:cp} {w:World} {v:Value} {d:D} (h:MW v=some d):cd κ w v d:=by
  unfold MW at h
  split at h
  bf first
    | (cases h; done)
    | (cases h; first | exact .bool _ | exact .int _ _ | exact .float _ _ | exact .gg | exact .bg | exact .fV | exact .eU | exact .iY)
    | (split at h
       · cases h
         ab s hs
         have:=cd.str (κ:=κ) (w:=w) s.data.toList hs
         simpa using this
       · cases h)
theorem Cb {κ:cp} {w:World}:∀{vs:List Value} {ds:List D},FY vs=some ds→bP κ w vs ds
  | [],ds,h=>by simp [FY] at h; subst h; exact .nil
  | v::vs,ds,h=>by
    simp only [FY] at h
    split at h
    · ab d Gj h1 h2
      cases h
      exact .cons (Ca h1) (Cb h2)
    · cases h
theorem bP.length {κ:cp} {w:World} {vs:List Value} {ds:List D} (h:bP κ w vs ds):vs.length=ds.length:=by
  induction h with
  | nil=>rfl
  | cons _ _ ih=>simp [ih]
theorem bP.get {κ:cp} {w:World} {vs:List Value} {ds:List D} (h:bP κ w vs ds):∀(i:Nat) (d:D),ds[i]? =some d→∃v,vs[i]? =some v∧cd κ w v d:=by
  induction h with
  | nil=>intro i d e; simp at e
  | cons a _ ih=>
    intro i d e
    cases i with
    | zero=>simp at e; subst e; exact ⟨_,by simp,a⟩
    | succ i=>simp at e; simpa using ih i d e
theorem bP.nS {κ:cp} {w:World}:∀{vs:List Value} {ds:List D},vs.length=ds.length→(∀(i:Nat) (d:D),ds[i]? =some d→∃v,vs[i]? =some v∧cd κ w v d)→bP κ w vs ds
  | [],[],_,_=>.nil
  | v::vs,d::ds,hl,h=>by
    obtain ⟨v',e,r⟩:=h 0 d (by simp)
    simp at e
    subst e
    exact .cons r (bP.nS (by simpa using hl) fun i d hd=>by simpa using h (i+1) d (by simpa using hd))
  | [],_::_,hl,_=>by simp at hl
  | _::_,[],hl,_=>by simp at hl
theorem bP.mono {κ κ':cp} {w w':World} {vs:List Value} {ds:List D} (h:bP κ w vs ds) (le:Le κ w κ' w'):bP κ' w' vs ds:=by
  induction h with
  | nil=>exact .nil
  | cons a _ ih=>exact .cons (a.mono le) ih
theorem bP.append {κ:cp} {w:World} {vs us:List Value} {ds es:List D} (h:bP κ w vs ds) (k:bP κ w us es):bP κ w (vs++us) (ds++es):=by
  induction h with
  | nil=>exact k
  | cons a _ ih=>exact .cons a ih
theorem bP.agg {κ:cp} {w:World} {cs:Array Value} {ds:List D} (h:bP κ w cs.toList ds):cd κ w (.agg cs) (.agg ds):=
  .agg (by have:=h.length; simpa using this) fun i d hd=>by
    obtain ⟨v,e,r⟩:=h.get i d hd
    have:cs.getD i (.tuple #[])=v:=by
      have e':cs[i]? =some v:=by simpa using e
      simp [Array.getD_eq_getD_getElem?,e']
    rw [this]; exact r
theorem bP.tuple {κ:cp} {w:World} {cs:Array Value} {ds:List D} (h:bP κ w cs.toList ds):cd κ w (.tuple cs) (.tuple ds):=
  .tuple (by have:=h.length; simpa using this) fun i d hd=>by
    obtain ⟨v,e,r⟩:=h.get i d hd
    have:cs.getD i (.tuple #[])=v:=by
      have e':cs[i]? =some v:=by simpa using e
      simp [Array.getD_eq_getD_getElem?,e']
    rw [this]; exact r
theorem bP.gV {κ:cp} {w:World} {cs:Array Value} {ds:List D} (hs:cs.size=ds.length) (hr:∀(i:Nat) (d:D),ds[i]? =some d→cd κ w (cs.getD i (.tuple #[])) d):bP κ w cs.toList ds:=
  bP.nS (by simpa using hs) fun i d hd=>by
    have hi:i<cs.size:=by
      have:=(List.getElem?_eq_some_iff.1 hd).1
      omega
    have Of:=hr i d hd
    refine ⟨cs[i],by simp [hi],?_⟩
    simpa [Array.getD,hi] using Of
theorem Cc {κ:cp} {w:World} {v:Value} {d:D} (h:MX v=some d):cd κ w v d:=by
  unfold MX at h
  split at h
  · ab cs
    cases e:FY cs.toList with
    | none=>simp [e] at h
    | some ds=>
      simp [e] at h
      subst h
      exact (Cb e).agg
  · exact Ca h
def jN [aN]:Operand→Option f7
  | .tmp t=>some (.t t)
  | .const v=>(MX v).map .c
  | .func f=>some (.f f)
  | .global g=>(aN.of g).map fun ds=>.c (.c8 ds 0)
def nV [aN] (l:List Operand):Option (List f7):=l.mapM jN
def DN [aN]:Option Operand→Option (Option f7)
  | none=>some none
  | some x=>(jN x).map some
inductive FU (κ:cp) (w:World):Deferred→lv→Prop
  | col {r id:Nat} {p:Place} (hl:κ.loc id=some p) (hv:p.aR=1) (hb:p.blk=r):FU κ w { target:=.collected r,args:= #[] } { fn:=.yield id,cap:=[],args:=[] }
  | mk {k:FuncId} {cap args:Array Value} {dc da:List D} (hc:bP κ w cap.toList dc) (ha:bP κ w args.toList da):FU κ w { target:=.fn (.func k) cap,args:=args } { fn:=.func k,cap:=dc,args:=da }
inductive kL (κ:cp) (w:World):List Deferred→List lv→Prop
  | nil:kL κ w [] []
  | cons {d:Deferred} {e:lv} {ds:List Deferred} {es:List lv} (h:FU κ w d e) (t:kL κ w ds es):kL κ w (d::ds) (e::es)
structure jF [aN] (κ:cp) (w:World) (σ:Fr) (n:Nat) (a:Act):Prop where
  size:a.tmps.size=n
  env:∀i,cd κ w (a.tmps.getD i undef) (σ.env i)
  defs:kL κ w a.defers σ.defs
  kG:gn κ w
theorem kL.mono {κ κ':cp} {w w':World} {a:List Deferred} {b:List lv} (h:kL κ w a b) (le:Le κ w κ' w'):kL κ' w' a b:=by
  induction h with
  | nil=>exact .nil
  | cons h _ ih=>
    cases h with
    | mk hc ha=>exact .cons (.mk (hc.mono le) (ha.mono le)) ih
    | col hl hv hb=>
      obtain ⟨p',h1,h2,h3,h4⟩:=le.loc _ _ hl
      have:=h4.one hv
      subst this
      exact .cons (.col h1 hv hb) ih
theorem jF.mono [aN] {κ κ':cp} {w w':World} {σ:Fr} {n:Nat} {a:Act} (h:jF κ w σ n a) (le:Le κ w κ' w'):jF κ' w' σ n a:=
  ⟨h.size,fun i=>(h.env i).mono le,h.defs.mono le,h.kG.mono le⟩
theorem jF.put [aN] {κ:cp} {w:World} {σ:Fr} {n:Nat} {a:Act} (h:jF κ w σ n a) (dst:Option Tmp) (hd:∀t,dst=some t→t<n) {v:Value} {d:D} (r:cd κ w v d):jF κ w (σ.put dst d) n (a.put dst v):=by
  cases dst with
  | none=>exact h
  | some t=>
    have ht:=hd t rfl
    refine ⟨by simp [Act.put,h.size],fun i=>?_,h.defs,h.kG⟩
    by_cases e:i=t
    · subst e
      have:i<a.tmps.size:=by rw [h.size]; exact ht
      simpa [Act.put,Array.getD_eq_getD_getElem?,this] using r
    · have e':t≠i:=fun x=>e x.symm
      simpa [Act.put,Array.getD_eq_getD_getElem?,Array.getElem?_setIfInBounds_ne e',e] using h.env i
theorem jF.forget [aN] {κ:cp} {w:World} {σ:Fr} {n:Nat} {a:Act} (h:jF κ w σ n a):jF κ w σ.forget n a:=⟨h.size,fun _=>.undef _,h.defs,h.kG⟩
theorem bp [aN] {κ:cp} {w:World} {σ:Fr} {n:Nat} {a:Act} (h:jF κ w σ n a) {x:Operand} {y:f7} (e:jN x=some y):cd κ w (a.eval x) (σ.ev y):=by
  cases x with
  | tmp t=>simp [jN] at e; subst e; exact h.env t
  | const v=>
    simp only [jN,Option.map_eq_some_iff] at e
    obtain ⟨d,e1,rfl⟩:=e
    exact Cc e1
  | func f=>
    simp [jN] at e
    subst e
    exact .func (by rfl) (by rfl) (fun i d hd=>by simp at hd) (fun i d hd=>by simp at hd)
  | global g=>
    simp only [jN,Option.map_eq_some_iff] at e
    obtain ⟨ds,e1,rfl⟩:=e
    exact h.kG.rep e1
theorem kl [aN] {κ:cp} {w:World} {σ:Fr} {n:Nat} {a:Act} (h:jF κ w σ n a):∀{l:List Operand} {ys:List f7},nV l=some ys→bP κ w (l.map a.eval) (ys.map σ.ev)
  | [],ys,e=>by simp [nV] at e; subst e; exact .nil
  | x::l,ys,e=>by
    simp only [nV,List.mapM_cons,Option.bind_eq_bind,Option.bind_eq_some_iff] at e
    obtain ⟨y,e1,ys',e2,e3⟩:=e
    cases e3
    exact .cons (bp h e1) (kl h e2)
def fieldsOf (P:Program) (t:TypeId):Option (Array Field):=
  match P.underlying t with
  | some (.struct fs)=>some fs
  | _=>none
def bT (P:Program) (t:TypeId):Option Nat:=(P.info? t).map (·.size)
def gI (P:Program) (t:TypeId):Option Nat:=(P.info? t).map (·.bytes)
def fQ (P:Program) (t:TypeId):Option D:=(P.info? t).bind fun i=>i.zero.bind MX
def shapeOf (P:Program) (t:TypeId):Option (Option Nat):=
  match P.underlying t,bT P t with
  | some (.struct _),some n=>some (some n)
  | some (.array _ _),some n=>some (some n)
  | some _,some n=>if n=1 then some none else none
  | _,_=>none
def nE (P:Program) (t:TypeId):Option TypeId:=
  match P.underlying t with
  | some (.slice e)=>some e
  | _=>none
def CL (P:Program) (t:TypeId):Option ET:=
  match P.underlying t with
  | some .bool=>some .bool
  | some (.pointer _)=>some .ptr
  | some (.slice _)=>some .slnil
  | some (.func _ _ _)=>some .uT
  | some (.interface _)=>some .iface
  | some (.array n e)=>match P.underlying e with
    | some (.int _)=>if P.eqGuardType P.depth t=false∧P.cellsOf e=1∧(P.info? e).isSome=true then some (.array n .SL) else none
    | _=>none
  | _=>none
def Uz (P:Program) (t:TypeId):Bool:=
  match P.underlying t with
  | some (.int _) | some .string | some (.float _)=>true
  | _=>false
def LY (P:Program) (t:TypeId) (b:f7):Bool:=
  match P.underlying t,b with
  | some (.slice _),.c .bg=>true
  | _,_=>false
def jt:Operand→Bool
  | .const _=>true
  | _=>false
def Lw (P:Program) (s d:TypeId):Option CK:=
  match P.underlying s,P.underlying d with
  | some (.int _),some (.int k)=>some (.nL k)
  | some (.int _),some (.float .f64)=>some .qQ
  | some (.float .f64),some (.int k)=>some (.vM k)
  | some (.float .f64),some (.float .f64)=>some .pZ
  | some .string,some .string=>some .same
  | some .string,some (.slice e)=>match P.underlying e with
    | some (.int .u8)=>some .jE
    | _=>none
  | some (.slice e),some .string=>match P.underlying e with
    | some (.int .u8)=>some .dW
    | _=>none
  | _,_=>none
def partsOf [aN] (P:Program) (fs:Array Field):List (Nat×Operand)→Option (List (Nat×Nat×f7))
  | []=>some []
  | (i,x)::ps=>match fs[i]?,jN x,partsOf P fs ps with
    | some f,some y,some qs=>(bT P f.type).map fun n=>(f.offset,n,y)::qs
    | _,_,_=>none
def nY [aN] (sz:Nat):List (Nat×Operand)→Option (List (Nat×Nat×f7))
  | []=>some []
  | (i,x)::ps=>match jN x,nY sz ps with
    | some y,some qs=>some ((i*sz,sz,y)::qs)
    | _,_=>none
def nZ [aN]:List (Nat×Operand)→Option (List (Nat×f7))
  | []=>some []
  | (i,x)::ps=>match jN x,nZ ps with
    | some y,some qs=>some ((i,y)::qs)
    | _,_=>none
def Z4 (P:Program) (t:TypeId):Bool:=
  match P.underlying t with
  | some (.float _)=>true
  | _=>false
def iL [aN] (P:Program) (vh quiet:Bool) (o:Oper):Option (bM f7):=
  match o.op with
  | .move x | .assign x=>(jN x).map .cy
  | .pick c a b=>match jN c,jN a,jN b with
    | some c,some a,some b=>some (.pick c a b)
    | _,_,_=>none
  | .alloc t=>(fQ P t).map fun d=>.alloc (bZ d)
  | .box t x=>(jN x).map .box
  | .build t ps=>match P.underlying t,fQ P t with
    | some (.struct fs),some z=>if fs.toList.all (fun f=>(bT P f.type).isSome)=true then (partsOf P fs ps.toList).map fun qs=>.build (bZ z) qs else none
    | some (.array _ e),some z=>match bT P e with
      | some sz=>(nY sz ps.toList).map fun qs=>.build (bZ z) qs
      | none=>none
    | _,_=>none
  | .buildSlice t n ps=>match nE P t with
    | some e=>match bT P e,fQ P e with
      | some sz,some z=>if n*sz≤16777216∧(bZ z).length=sz∧0<sz then (nZ ps.toList).map fun qs=>.buildSlice sz (bZ z) n qs vh else none
      | _,_=>none
    | none=>none
  | .load t x=>match shapeOf P t,jN x with
    | some n,some y=>some (.load n y)
    | _,_=>none
  | .store t x v=>match shapeOf P t,bT P t,jN x,jN v with
    | some _,some n,some y,some u=>some (.store n y u)
    | _,_,_,_=>none
  | .nilCheck x=>(jN x).map .nilCheck
  | .binOp op t x y _=>match jN x,jN y with
    | some a,some b=>match op with
      | .eql=>if Uz P t then some (.bin .eql a b) else if LY P t b then some (.isNil false a) else if jt x || jt y then (CL P t).map fun e=>.eql e false a b else if CL P t matches some .iface then none else (CL P t).map fun e=>.eql e false a b
      | .neq=>if Uz P t then some (.bin .neq a b) else if LY P t b then some (.isNil true a) else if jt x || jt y then (CL P t).map fun e=>.eql e true a b else if CL P t matches some .iface then none else (CL P t).map fun e=>.eql e true a b
      | op=>if (eS op && Z4 P t)=true then some (.iW op a b) else some (.bin op a b)
    | _,_=>none
  | .unOp op _ x=>(jN x).map (.un op)
  | .convert s d x=>match Lw P s d,jN x with
    | some c,some y=>some (.conv c y)
    | _,_=>none
  | .sliceToArrayPointer t x=>match P.underlying t,jN x with
    | some (.array n _),some y=>some (.vg n y)
    | _,_=>none
  | .makeInterface t x=>match P.underlying t with
    | some (.interface _)=>none
    | some _=>(jN x).map (.mw t)
    | none=>none
  | .makeFunc fn a b=>match nV a.toList,nV b.toList with
    | some a,some b=>some (.mkFunc fn a b)
    | _,_=>none
  | .slice t x lo hi mx=>match jN x,DN lo,DN hi,DN mx with
    | some x,some lo,some hi,some none=>match P.underlying t with
      | some .string=>some (.slice .str x lo hi none)
      | some (.slice e)=>(bT P e).map fun sz=>.slice (.sl sz) x lo hi none
      | some (.array n e)=>if bT P e=some 1 then some (.slice (.arr n) x lo hi none) else none
      | _=>none
    | _,_,_,_=>none
  | .fieldAddr s x f=>match fieldsOf P s,jN x with
    | some fs,some y=>match fs[f]? with
      | some fd=>match bT P fd.type with
        | some n=>if n≠0 then some (.fieldAddr fd.offset y) else none
        | none=>none
      | none=>none
    | _,_=>none
  | .field s x f=>match fieldsOf P s,jN x with
    | some fs,some y=>match fs[f]? with
      | some fd=>(shapeOf P fd.type).map fun n=>.field fd.offset n y
      | none=>none
    | _,_=>none
  | .indexAddr t x i=>match jN x,jN i with
    | some x,some i=>match P.underlying t with
      | some (.array n e)=>(bT P e).map fun sz=>.fL n sz x i
      | some (.slice e)=>match bT P e with
        | some sz=>if 0<sz then some (.a8 sz x i) else none
        | none=>none
      | _=>none
    | _,_=>none
  | .index t x i=>match jN x,jN i with
    | some x,some i=>match P.underlying t with
      | some (.array n e)=>match bT P e,shapeOf P e with
        | some sz,some k=>some (.sw n sz k x i)
        | _,_=>none
      | some .string=>some (.ic x i)
      | _=>none
    | _,_=>none
  | .extract x i=>(jN x).map fun y=>.extract y i
  | .panic x=>(jN x).map .panic
  | .call c=>match c.callee with
    | .value f=>match jN f,nV c.args.toList with
      | some g,some as=>some (if quiet then .qcall g as else if vh then .callR g as else .call g as)
      | _,_=>none
    | .builtin b=>match b,nV c.args.toList,c.argTypes[0]? with
      | .len,some [x],some t=>match P.underlying t with
        | some .string=>some (.len .str x)
        | some (.slice _)=>some (.len .sl x)
        | some (.array n _)=>some (.len (.arr n) x)
        | _=>none
      | .min,some [x,y],_=>some (.nR false x y)
      | .max,some [x,y],_=>some (.nR true x y)
      | .append,some [s,x],some t=>match nE P t,c.argTypes.toList with
        | some e,[_,t2]=>match bT P e,gI P e,fQ P e,P.underlying t2 with
          | some sz,some jK,some z,some (.slice _)=>if (bZ z).length=sz∧0<sz then some (.append sz jK false s x) else none
          | some sz,some jK,some z,some .string=>if (bZ z).length=sz∧sz=1 then some (.append sz jK true s x) else none
          | _,_,_,_=>none
        | _,_=>none
      | _,_,_=>none
    | _=>none
  | .range t x=>match P.underlying t with
    | some .string=>(jN x).map .mK
    | _=>none
  | .next x b=>match b with
    | true=>(jN x).map .pN
    | false=>none
  | .typeAssert x xt t ok=>match P.underlying t with
    | some (.interface _)=>none
    | some _=>(jN x).map (.typeAssert t ok .undef)
    | none=>none
  | .makeSlice t l c=>match nE P t,jN l,jN c with
    | some e,some l,some c=>match bT P e,gI P e,fQ P e with
      | some sz,some jK,some z=>if (bZ z).length=1∧sz=1∧cf z=true∧0<jK then some (.makeSlice sz jK (bZ z) l c) else none
      | _,_,_=>none
    | _,_,_=>none
  | _=>none
end Go.Proofs.YtpklkpkfgmoghaaGreatDoor.Zz
namespace Go.Proofs.YtpklkpkfgmoghaaGreatDoor.Zz
variable {P:Program} {κ:cp} {h:aa} {w:World} {σ:Fr} {n:Nat} {a:Act}
def eA [aN] (P:Program) (κ:cp) (h:aa) (w:World) (K:D→aa→Prop) (E:D→aa→Prop):Result Next→Prop
 | .ok (.value v) w'=>∃κ' h' d,K d h'∧cd κ' w' v d∧Inv κ' h' w'∧Ev κ h w κ' h' w'
 | .ok .skip w'=>∃κ' h',K .undef h'∧Inv κ' h' w'∧Ev κ h w κ' h' w'
 | .ok (.enter f vs) w'=>Calls P f vs w' fun e AA=>∃o kQ gP,dF.to K E o kQ∧jH gP AA o e∧Inv gP kQ AA∧Ev κ h w gP kQ AA
 | .ok (.round l f tmps assign body) w'=>RoundIn Fence.wide 0 P l f tmps assign body w' fun e AA=>∃o kQ gP,dF.to K E o kQ∧jH gP AA o e∧Inv gP kQ AA∧Ev κ h w gP kQ AA
 | .halt (.panic v) w'=>∃κ' h' d,E d h'∧cd κ' w' v d∧Inv κ' h' w'∧Ev κ h w κ' h' w'
 | _=>False
variable {K E:D→aa→Prop}
theorem eA.val [aN] (hi:Inv κ h w) {v:Value} {d:D} (hk:K d h) (r:cd κ w v d):eA P κ h w K E (.ok (.value v) w):=⟨κ,h,d,hk,r,hi,Ev.refl κ h w⟩
theorem run_typeInfo {t:TypeId} {i:TypeInfo} (e:P.info? t=some i) (w:World):(typeInfo t).run P w=.ok i w:=by simp [typeInfo,e]
theorem run_sizeOf {t:TypeId} {k:Nat} (e:bT P t=some k) (w:World):(sizeOf t).run P w=.ok k w:=by
 unfold bT at e
 cases e1:P.info? t with
 | none=>simp [e1] at e
 | some i=>simp [e1] at e; simp [sizeOf,run_typeInfo e1,e]
theorem pM {t:TypeId} {d:D} (e:fQ P t=some d) (κ:cp) (w:World):∃v,(zeroValue t).run P w=.ok v w∧cd κ w v d∧∃i,P.info? t=some i∧i.zero=some v:=by
 unfold fQ at e
 cases e1:P.info? t with
 | none=>simp [e1] at e
 | some i=>
  cases e2:i.zero with
  | none=>simp [e1,e2] at e
  | some v=>
   simp [e1,e2] at e
   exact ⟨v,by simp [zeroValue,run_typeInfo e1,e2],Cc e,i,rfl,e2⟩
theorem oa {t:TypeId} {k:Nat} (e:shapeOf P t=some (some k)) (w:World):(isAgg t).run P w=.ok true w∧bT P t=some k:=by
 unfold shapeOf at e
 split at e
 ·ab fs m e1 e2; simp at e; subst e; exact ⟨by simp [isAgg,run_underlying e1],e2⟩
 ·ab l el m e1 e2; simp at e; subst e; exact ⟨by simp [isAgg,run_underlying e1],e2⟩
 ·split at e<;>simp at e
 ·simp at e
theorem n_ {t:TypeId} (e:shapeOf P t=some none) (w:World):(isAgg t).run P w=.ok false w∧bT P t=some 1:=by
 unfold shapeOf at e
 split at e
 ·simp at e
 ·simp at e
 ·ab d m e1 e2 h1 h2
  split at e
  ·ab hm
   subst hm
   refine ⟨?_,h2⟩
   cases d<;>first | (simp [isAgg,run_underlying h1]; done) | dj
  ·simp at e
 ·simp at e
theorem o_ {v:Value} {d:D} (r:cd κ w v d) (hd:d≠.undef):bP κ w v.cells.toList (bZ d):=by
 cases r with
 | undef=>exact absurd rfl hd
 | agg hs hr=>exact bP.gV hs hr
 | _=>exact .cons (by first | exact .bool _ | exact .int _ _ | exact .float _ _ | exact .str _ ‹_› | exact .gg | exact .bg | exact .slnil ‹_› | exact .eU | exact .fV | exact .iY | (constructor<;>assumption)) .nil
theorem tN {v:Value} {d:D} (r:cd κ w v d) (hd:cf d=true):v.oneCell'=true∧v.cells= #[v]:=by
 cases r<;>first | (simp [cf] at hd; done) | exact ⟨rfl,rfl⟩
end Go.Proofs.YtpklkpkfgmoghaaGreatDoor.Zz
