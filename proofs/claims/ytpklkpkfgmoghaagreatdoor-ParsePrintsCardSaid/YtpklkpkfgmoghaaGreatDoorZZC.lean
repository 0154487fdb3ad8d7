/- Running code by laws: what is left to do is data, so that nothing is looked at before its turn. -/
import Derived.Test.YtpklkpkfgmoghaaGreatDoorZU
import Derived.Below
import Derived.ChangeSlices
import Derived.ChangeSame
import Derived.Deep.Strs
import Derived.LaidLaws
import Derived.Deep.DeepLaidRun
import Derived.Handed
import Derived.HandedShaped
import Derived.OpenShut
import Derived.MakeChecks
import Derived.Shelf.Vars
set_option linter.unnecessarySimpa false
set_option linter.unusedVariables false
set_option linter.unusedSimpArgs false
namespace Go.Proofs.YtpklkpkfgmoghaaGreatDoor.Zz
variable {T:bm} {K:Ex→Fr→aa→Prop} {E:Fr→D→aa→Prop} {σ:Fr} {h:aa}
inductive Item where
 | stm (s:dL)
 | blk (id:Nat)
 | lp (Q:Fr→aa→Prop)
def todo (T:bm) (K:Ex→Fr→aa→Prop) (E:Fr→D→aa→Prop):List Item→Ex→Fr→aa→Prop
 | [],e,σ,h=>K e σ h
 | .stm s::k,e,σ,h=>match e with
  | .normal=>vc T s (todo T K E k) E σ h
  | e=>todo T K E k e σ h
 | .blk id::k,e,σ,h=>match e with
  | .exit i=>if i=id then todo T K E k .normal σ h else todo T K E k (.exit i) σ h
  | e=>todo T K E k e σ h
 | .lp Q::k,e,σ,h=>match e with
  | .normal=>Q σ h
  | e=>todo T K E k e σ h
theorem dK {s:dL}:vc T s K E σ h=vc T s (todo T K E []) E σ h:=by
 congr 1
theorem Ek {k:List Item}:vc T .skip (todo T K E k) E σ h=todo T K E k .normal σ h:=rfl
theorem Ej {id:Nat} {k:List Item}:vc T (.exit id) (todo T K E k) E σ h=todo T K E k (.exit id) σ h:=rfl
theorem ID {k:List Item}:vc T .ret (todo T K E k) E σ h=todo T K E k .ret σ h:=rfl
theorem run_seq {a b:dL} {k:List Item}:vc T (.seq a b) (todo T K E k) E σ h=vc T a (todo T K E (.stm b::k)) E σ h:=by
 show vc T a _ E σ h=vc T a _ E σ h
 congr 1
theorem z7 {id:Nat} {s:dL} {k:List Item}:vc T (.block id s) (todo T K E k) E σ h=vc T s (todo T K E (.blk id::k)) E σ h:=by
 show vc T s _ E σ h=vc T s _ E σ h
 congr 1
def OV (T:bm) (K:Ex→Fr→aa→Prop) (E:Fr→D→aa→Prop) (c:f7) (a b:dL) (k:List Item) (σ:Fr) (h:aa):D→Prop
 | .bool t=>(t=true→vc T a (todo T K E k) E (σ.mark c true) h)∧(t=false→vc T b (todo T K E k) E (σ.mark c false) h)
 | _=>False
theorem Ei {c:f7} {a b:dL} {k:List Item}:vc T (.cond c a b) (todo T K E k) E σ h=OV T K E c a b k σ h (σ.ev c):=by
 show (match σ.ev c with | .bool t=>_ | _=>False)=_
 generalize σ.ev c=d
 cases d<;>rfl
theorem GU {c:f7} {a b:dL} {k:List Item} {t:Bool}:OV T K E c a b k σ h (.bool t)=((t=true→vc T a (todo T K E k) E (σ.mark c true) h)∧(t=false→vc T b (todo T K E k) E (σ.mark c false) h)):=rfl
theorem Fk {s:dL} {k:List Item}:todo T K E (.stm s::k) .normal σ h=vc T s (todo T K E k) E σ h:=rfl
theorem rQ {s:dL} {k:List Item}:todo T K E (.stm s::k) .ret σ h=todo T K E k .ret σ h:=rfl
theorem pR {s:dL} {i:Nat} {k:List Item}:todo T K E (.stm s::k) (.exit i) σ h=todo T K E k (.exit i) σ h:=rfl
theorem Fi {id:Nat} {k:List Item}:todo T K E (.blk id::k) .normal σ h=todo T K E k .normal σ h:=rfl
theorem rO {id:Nat} {k:List Item}:todo T K E (.blk id::k) .ret σ h=todo T K E k .ret σ h:=rfl
theorem pQ {id i:Nat} {k:List Item}:todo T K E (.blk id::k) (.exit i) σ h=if i=id then todo T K E k .normal σ h else todo T K E k (.exit i) σ h:=rfl
theorem KO {Q:Fr→aa→Prop} {k:List Item}:todo T K E (.lp Q::k) .normal σ h=Q σ h:=rfl
theorem uA {Q:Fr→aa→Prop} {k:List Item}:todo T K E (.lp Q::k) .ret σ h=todo T K E k .ret σ h:=rfl
theorem rP {Q:Fr→aa→Prop} {i:Nat} {k:List Item}:todo T K E (.lp Q::k) (.exit i) σ h=todo T K E k (.exit i) σ h:=rfl
theorem Fj {e:Ex}:todo T K E [] e σ h=K e σ h:=rfl
def WC (T:bm) (os:List ep) (K:Fr→aa→Prop) (E:Fr→D→aa→Prop) (d:Option Nat) (σ:Fr) (x:D) (h:aa):Prop:=fe T os K E (σ.put d x) h
def ask:Option D→(D→aa→Prop)→aa→Prop
 | some x,K,h=>K x h
 | none,_,_=>False
def uD:Option aa→(D→aa→Prop)→Prop
 | some h,K=>K .undef h
 | none,_=>False
theorem vi {x:D} {K:D→aa→Prop}:ask (some x) K h=K x h:=rfl
theorem Ck {K:D→aa→Prop}:ask none K h=False:=rfl
theorem AU {c:Prop} [Decidable c] {o:Option D} {K:D→aa→Prop}:ask (if c then o else none) K h=(c∧ask o K h):=by
 split<;>dj [ask]
theorem yo {K:D→aa→Prop}:uD (some h) K=K .undef h:=rfl
theorem yn {K:D→aa→Prop}:uD none K=False:=rfl
theorem Cj {c:Prop} [Decidable c] {o:Option aa} {K:D→aa→Prop}:uD (if c then o else none) K=(c∧uD o K):=by
 split<;>dj [uD]
theorem jI {o:Option D} {K:D→aa→Prop}:(∃d,o=some d∧K d h)=ask o K h:=by
 cases o<;>simp [ask]
theorem uM {o:Option aa} {K:D→aa→Prop}:(∃h',o=some h'∧K .undef h')=uD o K:=by
 cases o<;>simp [uD]
section
variable {os:List ep} {K:Fr→aa→Prop} {d:Option Nat} {x:D}
theorem Dt:WC T os K E d σ x h=fe T os K E (σ.put d x) h:=rfl
theorem aaj {i:bM f7}:fe T (⟨i,d,none,true⟩::os) K E σ h=ask (dS (i.map σ.ev)) (WC T os K E d σ) h:=by
 rw [←jI]; rfl
theorem aai {i:bM f7}:fe T (⟨i,d,none,false⟩::os) K E σ h=d_ T (i.map σ.ev) h (WC T os K E d σ) (E σ):=rfl
def guard (T:bm) (i:bM f7) (d:Option Nat) (t:Nat) (want p:Bool) (os:List ep) (K:Fr→aa→Prop) (E:Fr→D→aa→Prop) (σ:Fr) (h:aa):D→Prop
 | .bool b=>(b=want→fe T (⟨i,d,none,p⟩::os) K E (σ.put (some t) (.bool want)) h)∧(b= !want→fe T os K E ((σ.put (some t) (.bool (!want))).put d (.tuple [])) h)
 | .tuple []=>fe T os K E (σ.put d (.tuple [])) h
 | _=>False
theorem aah {i:bM f7} {t:Nat} {want p:Bool}:fe T (⟨i,d,some (t,want),p⟩::os) K E σ h=guard T i d t want p os K E σ h (σ.env t):=by
 simp only [fe,Up]
 cases e:σ.env t with
 | bool b=>
  simp only [guard]
  congr 1
  apply propext
  constructor
  ·intro h1 hb; subst hb; rw [Fr.kq e] at h1 ⊢; exact h1 rfl
  ·intro h1 hb; subst hb; rw [Fr.kq e] at h1 ⊢; exact h1 rfl
 | tuple ds=>cases ds<;>rfl
 | _=>rfl
theorem R4 {i:bM f7} {t:Nat} {p b:Bool}:guard T i d t true p os K E σ h (.bool b)=((b=true→fe T (⟨i,d,none,p⟩::os) K E (σ.put (some t) (.bool true)) h)∧(b=false→fe T os K E ((σ.put (some t) (.bool false)).put d (.tuple [])) h)):=rfl
theorem R3 {i:bM f7} {t:Nat} {p b:Bool}:guard T i d t false p os K E σ h (.bool b)=((b=false→fe T (⟨i,d,none,p⟩::os) K E (σ.put (some t) (.bool false)) h)∧(b=true→fe T os K E ((σ.put (some t) (.bool true)).put d (.tuple [])) h)):=rfl
theorem C7 {i:bM f7} {t:Nat} {want p:Bool}:guard T i d t want p os K E σ h (.tuple [])=fe T os K E (σ.put d (.tuple [])) h:=rfl
end
theorem VB {x:D}:dS (.cy x)=some x:=rfl
theorem Rf {c:Bool} {a b:D}:dS (.pick (.bool c) a b)=some (bif c then a else b):=rfl
theorem KW {zs:List D} {ps:List (Nat×Nat×D)}:dS (.build zs ps)=(ia zs ps).map .agg:=rfl
theorem ab8 {sz len:Nat} {zs:List D} {ps:List (Nat×D)}:dS (.buildSlice sz zs len ps false)=(ew sz (rowsOf sz zs len) ps).map fun xs=>.sl (pG zs xs):=rfl
theorem FB {a b c:Nat}:dS (.nilCheck (.ptr a b c))=some (.ptr a b c):=rfl
theorem Av {a:List D} {c:Nat}:dS (.nilCheck (.c8 a c))=some (.c8 a c):=rfl
theorem Ax {a b c d:Nat}:dS (.nilCheck (.eM a b c d))=some (.eM a b c d):=rfl
theorem Aw {k:FuncId} {a b:List D}:dS (.nilCheck (.func (.func k) a b))=some (.func (.func k) a b):=rfl
theorem Vx {op:BinOp} {x y:D}:dS (.bin op x y)=jP op x y:=rfl
theorem Vy {t:ET} {neg:Bool} {x y:D}:dS (.eql t neg x y)=(iK t x y).map fun b=>.bool (if neg then !b else b):=rfl
theorem ab9 {op:UnOp} {x:D}:dS (.un op x)=me op x:=rfl
theorem Fx {k k':IntKind} {n:Int}:dS (.conv (.nL k) (.int k' n))=some (.int k (k.wrap n)):=rfl
theorem xA {k':IntKind} {n:Int}:dS (.conv .qQ (.int k' n))=some (.float .f64 (FloatKind.f64.nearest n)):=rfl
theorem Rg {s:List UInt8}:dS (.conv .same (.str s))=some (.str s):=rfl
theorem xB {s:List UInt8}:dS (.conv .jE (.str s))=some (.sl (eP s)):=rfl
theorem KY {k:SK} {x:D} {lo hi mx:Option D}:dS (.slice k x lo hi mx)=iv k x lo hi mx:=rfl
theorem Ft {o a b c:Nat}:dS (.fieldAddr o (.ptr a b c))=some (.ptr a b (c+o)):=rfl
theorem Aq {o c:Nat} {a:List D}:dS (.fieldAddr o (.c8 a c))=some (.c8 a (c+o)):=rfl
theorem Ar {o a b c d:Nat}:dS (.fieldAddr o (.eM a b c d))=some (.eM a b c (d+o)):=rfl
theorem KX {o:Nat} {n:Option Nat} {ds:List D}:dS (.field o n (.agg ds))=gz ds o n:=rfl
theorem Fu {len sz a b c:Nat} {k:IntKind} {i:Int}:dS (.fL len sz (.ptr a b c) (.int k i))=if 0≤i∧i<len then some (.ptr a b (c+i.toNat*sz)) else none:=rfl
theorem As {len sz c:Nat} {a:List D} {k:IntKind} {i:Int}:dS (.fL len sz (.c8 a c) (.int k i))=if 0≤i∧i<len then some (.c8 a (c+i.toNat*sz)) else none:=rfl
theorem At {len sz a b c d:Nat} {k:IntKind} {i:Int}:dS (.fL len sz (.eM a b c d) (.int k i))=if 0≤i∧i<len then some (.eM a b c (d+i.toNat*sz)) else none:=rfl
theorem Fv {len sz:Nat} {n:Option Nat} {ds:List D} {k:IntKind} {i:Int}:dS (.sw len sz n (.agg ds) (.int k i))=if 0≤i∧i<len then gz ds (i.toNat*sz) n else none:=rfl
theorem Fw {s:List UInt8} {k:IntKind} {i:Int}:dS (.ic (.str s) (.int k i))=if 0≤i∧i<s.length then some (.int .u8 ((s.getD i.toNat 0).toNat:Int)) else none:=Lz s k i
theorem Fz {s:List UInt8} {k:IntKind} {i:Int}:dS (.a8 1 (.sl (eP s)) (.int k i))=if 0≤i∧i<s.length then some (.c8 [.int .u8 ((s.getD i.toNat 0).toNat:Int)] 0) else none:=by
 show bo (.a8 1 (.sl (eP s)) (.int k i))=_
 rw [xW,nO]
 by_cases h:0≤i∧i<s.length
 ·rw [if_pos h,LD s _ (by omega),if_pos ⟨h,rfl⟩]
 ·rw [if_neg h,if_neg (fun x=>h x.1)]
theorem Fy {id off len:Nat} {k:IntKind} {i:Int}:dS (.a8 1 (.r7 id off len) (.int k i))=if 0≤i∧i<len∧(1:Nat)=1 then some (.ptr id 1 (off+i.toNat)) else none:=rfl
theorem Ap {ds:List D} {i:Nat}:dS (.extract (.tuple ds) i)=ds[i]? :=rfl
theorem Au {t:TypeId} {x:D}:dS (.mw t x)=some (.iface t x):=rfl
theorem FA {fn:Fn} {a b:List D}:dS (.mkFunc fn a b)=some (.func fn a b):=rfl
theorem Vz {k k':IntKind} {a b:Int}:dS (.nR true (.int k a) (.int k' b))=some (.int k (if a<b then b else a)):=rfl
theorem VA {k k':IntKind} {a b:Int}:dS (.nR false (.int k a) (.int k' b))=some (.int k (if b<a then b else a)):=rfl
theorem Re {k:LK} {x:D}:dS (.p7 k x)=na k x:=rfl
section
variable {K E:D→aa→Prop}
theorem H4 {ds:List D}:d_ T (.alloc ds) h K E=∀id,h.f id=none→K (.ptr id 1 0) (h.set id (.cells ds)):=rfl
theorem Uh {x:D}:d_ T (.box x) h K E=((bZ x).all cf=true∧∀id,h.f id=none→K (.ptr id 1 0) (h.set id (.cells (bZ x)))):=rfl
theorem Z1 {sz len:Nat} {zs:List D} {ps:List (Nat×D)}:d_ T (.buildSlice sz zs len ps true) h K E=∃xs,ew sz (rowsOf sz zs len) ps=some xs∧∀id,h.f id=none→K (.row id (len+2) 0 len) (h.set id (.row sz (len+2) xs false)):=rfl
theorem On {n:Option Nat} {x:D}:d_ T (.load n x) h K E=ask (eJ h n x) K h:=by rw [←jI]; rfl
theorem Dk {n:Option Nat} {x b:D}:d_ T (.cT n x b) h K E=ask (if eu x b=true then eJ h n x else none) K h:=by rw [←jI]; rfl
theorem Dh {k:FuncId} {first cap args ys:List D}:d_ T (.callNe (.func (.func k) first cap) args ys) h K E=T.c k ((first++args++cap).map (plain h)) (ff h (first++args++cap)) (fun d h'=>(∀y∈ys,f5 h h' y)∧K d h') E:=rfl
theorem H5 {k:FuncId}:d_ T (.lN k) h K E=∃ds,T.a k=some ds∧∀id,h.f id=none→K (.ptr id 1 0) (h.set id (.cells ds)):=rfl
theorem H8 {n:Nat} {x v:D}:d_ T (.store n x v) h K E=uD (fx h n x v) K:=by rw [←uM]; rfl
theorem zb {n:Nat} {x v:D} {ys:List D}:d_ T (.storeNe n x v ys) h K E=(ys.all (gh x)=true∧uD (fx h n x v) K):=by rw [←uM]; rfl
theorem mn {x:D}:d_ T (.conv .dW x) h K E=ask (cK h (.conv .dW x)) K h:=by rw [←jI]; rfl
theorem tm {k:SK} {r aR off len:Nat} {lo hi mx:Option D}:d_ T (.slice k (.row r aR off len) lo hi mx) h K E=ask (cK h (.slice k (.row r aR off len) lo hi mx)) K h:=by rw [←jI]; rfl
theorem tn {k:SK} {s:List UInt8} {lo hi mx:Option D}:d_ T (.slice k (.str s) lo hi mx) h K E=ask (iv k (.str s) lo hi mx) K h:=by rw [←jI]; rfl
theorem v7 {k:SK} {s:List (List D)} {lo hi mx:Option D}:d_ T (.slice k (.sl s) lo hi mx) h K E=ask (iv k (.sl s) lo hi mx) K h:=by rw [←jI]; rfl
theorem tl {k:SK} {a b c:Nat} {lo hi mx:Option D}:d_ T (.slice k (.ptr a b c) lo hi mx) h K E=ask (iv k (.ptr a b c) lo hi mx) K h:=by rw [←jI]; rfl
theorem ti {sz r aR off len:Nat} {i:D}:d_ T (.a8 sz (.row r aR off len) i) h K E=ask (cK h (.a8 sz (.row r aR off len) i)) K h:=by rw [←jI]; rfl
theorem Gt {sz:Nat} {xs:List (List D)} {i:D}:d_ T (.a8 sz (.sl xs) i) h K E=ask (bo (.a8 sz (.sl xs) i)) K h:=by rw [←jI]; rfl
def iI (sz:Nat) (K:D→aa→Prop) (h:aa) (xs:List (List D)) (i:Int):Prop:=(0≤i∧i<xs.length)∧∀x,xs[i.toNat]? =some x→x.length=sz∧K (.c8 x 0) h
theorem tg {sz:Nat} {xs:List (List D)} {k:IntKind} {i:Int}:d_ T (.a8 sz (.sl xs) (.int k i)) h K E=iI sz K h xs i:=by
 rw [Gt]
 simp only [bo,iI]
 by_cases h0:0≤i
 ·rw [if_pos h0]
  cases e:xs[i.toNat]? with
  | none=>
   have:¬i<(xs.length:Int):=by have:=List.getElem?_eq_none_iff.1 e; omega
   simp [ask,this]
  | some x=>
   have:i.toNat<xs.length:=(List.getElem?_eq_some_iff.1 e).1
   have h2:i<(xs.length:Int):=by omega
   simp only [AU,vi,h0,h2,and_self,true_and,Option.some.injEq,forall_eq']
 ·simp [h0,ask]
theorem Ci {s:List UInt8} {i:Int}:iI 1 K h (eP s) i=((0≤i∧i<s.length)∧K (.c8 [.int .u8 ((s.getD i.toNat 0).toNat:Int)] 0) h):=by
 simp only [iI,nO]
 by_cases h0:0≤i∧i<s.length
 ·rw [RY s _ (by omega)]
  simp [h0]
 ·simp [h0]
theorem lL {α:Type} {sz:Nat} {f:α→List D} {l:List α} {i:Int} (hf:∀x,(f x).length=sz):iI sz K h (l.map f) i=((0≤i∧i<l.length)∧∀x,l[i.toNat]? =some x→K (.c8 (f x) 0) h):=by
 simp only [iI,List.length_map,List.getElem?_map,Option.map_eq_some_iff]
 congr 1
 apply propext
 constructor
 ·intro q x hx; exact (q (f x) ⟨x,hx,rfl⟩).2
 ·rintro q _ ⟨x,hx,rfl⟩; exact ⟨hf x,q x hx⟩
theorem th {sz id off len:Nat} {i:D}:d_ T (.a8 sz (.r7 id off len) i) h K E=ask (bo (.a8 sz (.r7 id off len) i)) K h:=by rw [←jI]; rfl
theorem za {s:List UInt8}:d_ T (.len .str (.str s)) h K E=(s.length≤9223372036854775807→K (.int .i64 (s.length:Int)) h):=rfl
theorem y8 {n:Nat} {x:D}:d_ T (.len (.arr n) x) h K E=K (.int .i64 (n:Int)) h:=rfl
theorem sv:d_ T (.len .sl .bg) h K E=K (.int .i64 0) h:=rfl
theorem Dj {xs:List (List D)}:d_ T (.len .sl (.sl xs)) h K E=(xs.length≤9223372036854775807→K (.int .i64 (xs.length:Int)) h):=rfl
theorem y_ {r aR off len:Nat}:d_ T (.len .sl (.row r aR off len)) h K E=(len≤9223372036854775807→K (.int .i64 (len:Int)) h):=rfl
theorem y9 {id off len:Nat}:d_ T (.len .sl (.r7 id off len)) h K E=(len≤9223372036854775807→K (.int .i64 (len:Int)) h):=rfl
theorem tj {sz b:Nat} {zs:List D} {k k':IntKind} {l c:Int}:d_ T (.makeSlice sz b zs (.int k l) (.int k' c)) h K E=(0≤l∧l=c∧l*b≤140737488355328∧zs.length=sz∧0<sz∧∀id,h.f id=none→K (.row id (l.toNat+2) 0 l.toNat) (h.set id (.row sz (l.toNat+2) (rowsOf sz zs l.toNat) false))):=rfl
theorem Om {k:FuncId} {first cap args:List D}:d_ T (.call (.func (.func k) first cap) args) h K E=T.c k ((first++args++cap).map (plain h)) (ff h (first++args++cap)) K E:=rfl
theorem H6 {k:FuncId} {first cap args:List D}:d_ T (.qcall (.func (.func k) first cap) args) h K E=ask (T.q k ((first++args++cap).map (plain h))) (fun d h'=>K d (fp d h h')) (ff h (first++args++cap)):=by rw [←jI]; rfl
theorem zp {b:Bool} {h h':aa}:fp (.bool b) h h'=h:=rfl
theorem Dy {k:IntKind} {n:Int} {h h':aa}:fp (.int k n) h h'=h:=rfl
theorem v8 {k:FloatKind} {n:Nat} {h h':aa}:fp (.float k n) h h'=h:=rfl
theorem Dz {s:List UInt8} {h h':aa}:fp (.str s) h h'=h:=rfl
theorem Dx {ds:List D} {h h':aa}:fp (.agg ds) h h'=h':=rfl
theorem wc {ds:List D} {h h':aa}:fp (.tuple ds) h h'=h':=rfl
theorem Ie {xs:List (List D)} {h h':aa}:fp (.sl xs) h h'=h':=rfl
theorem zq {f:Fn} {a b:List D} {h h':aa}:fp (.func f a b) h h'=h':=rfl
theorem v_ {t:TypeId} {d:D} {h h':aa}:fp (.iface t d) h h'=h':=rfl
theorem wb {h h':aa}:fp .fV h h'=h':=rfl
theorem zr {d:D} {h:aa}:fp d h h=h:=by cases d<;>rfl
theorem Bm {t:TypeId} {d:D}:d_ T (.panic (.iface t d)) h K E=E (.iface t d) h:=rfl
def F0 (sz bytes:Nat) (s:D) (h:aa) (K:D→aa→Prop):Option (List (List D))→Prop
 | none=>False
 | some ys=>(∀y∈ys,y.length=sz∧y.all cf=true)∧0<bytes∧
   (match s with
    | .bg=>(ys=[]→K .bg h)∧ys.length*bytes≤140737488355328∧(ys≠[]→∀id,h.f id=none→K (.row id (ys.length+2) 0 ys.length) (h.set id (.row sz (ys.length+2) ys false)))
    | .row r aR off len=>match h.f r with
     | some (.row gS bW xs false)=>aR=bW∧gS=sz∧off=0∧len=xs.length∧(xs.length+ys.length)*bytes≤140737488355328∧
       K (.row r (aR+ys.length) 0 (len+ys.length)) (h.set r (.row sz (aR+ys.length) (xs++ys) false))
     | _=>False
    | _=>False)
theorem Dg {sz b:Nat} {str:Bool} {s x:D}:d_ T (.append sz b str s x) h K E=F0 sz b s h K (pO h str x):=by
 simp only [d_]
 generalize pO h str x=o
 cases o with
 | none=>simp [F0]
 | some ys=>simp only [Option.some.injEq,exists_eq_left',F0]; rfl
theorem Ak {b:List UInt8}:pO h true (.str b)=some (eP b):=rfl
theorem Ez {x:D}:pO h false x=cO h x:=rfl
theorem AO {sz b:Nat} {ys:List (List D)}:F0 sz b .bg h K (some ys)=((∀y∈ys,y.length=sz∧y.all cf=true)∧0<b∧(ys=[]→K .bg h)∧ys.length*b≤140737488355328∧(ys≠[]→∀id,h.f id=none→K (.row id (ys.length+2) 0 ys.length) (h.set id (.row sz (ys.length+2) ys false)))):=rfl
def YI (sz b r aR off len:Nat) (ys:List (List D)) (h:aa) (K:D→aa→Prop):Option cR→Prop
 | some (.row gS bW xs false)=>aR=bW∧gS=sz∧off=0∧len=xs.length∧(xs.length+ys.length)*b≤140737488355328∧
       K (.row r (aR+ys.length) 0 (len+ys.length)) (h.set r (.row sz (aR+ys.length) (xs++ys) false))
 | _=>False
theorem AP {sz b r aR off len:Nat} {ys:List (List D)}:F0 sz b (.row r aR off len) h K (some ys)=((∀y∈ys,y.length=sz∧y.all cf=true)∧0<b∧YI sz b r aR off len ys h K (h.f r)):=by
 simp only [F0]
 congr 2
theorem ve {sz b r aR off len gS bW:Nat} {ys xs:List (List D)}:YI sz b r aR off len ys h K (some (.row gS bW xs false))=(aR=bW∧gS=sz∧off=0∧len=xs.length∧(xs.length+ys.length)*b≤140737488355328∧
       K (.row r (aR+ys.length) 0 (len+ys.length)) (h.set r (.row sz (aR+ys.length) (xs++ys) false))):=rfl
def yg (sz bytes:Nat) (s:D) (h:aa) (K:D→aa→Prop):Option (List (List D))→Prop
 | none=>False
 | some ys=>(∀y∈ys,y.length=sz∧y.all cf=true)∧0<bytes∧
   (match s with
    | .bg=>ys≠[]∧ys.length*bytes≤140737488355328∧∀id,h.f id=none→K (.row id 2 0 ys.length) (h.set id (.gb sz 2 ys []))
    | .row r aR off len=>match h.f r with
     | some (.gb gS bW xs f9)=>ys≠[]∧aR=bW∧gS=sz∧off=0∧len=xs.length∧(xs.length+ys.length)*bytes≤140737488355328∧
       K (.row r (aR+1) 0 (len+ys.length)) (h.set r (.gb sz (aR+1) (xs++ys) ((aR,len)::f9)))
     | some (.row gS bW xs false)=>aR=bW∧gS=sz∧off=0∧len=xs.length∧(xs.length+ys.length)*bytes≤140737488355328∧
       K (.row r (aR+ys.length) 0 (len+ys.length)) (h.set r (.row sz (aR+ys.length) (xs++ys) false))
     | _=>False
    | _=>False)
theorem y7 {sz b:Nat} {str:Bool} {s x:D} {zs:List D}:d_ T (.appendA sz b str s x zs) h K E=(zs.all (cellAt h)=true∧yg sz b s h K (pO h str x)):=by
 simp only [d_]
 generalize pO h str x=o
 cases o with
 | none=>simp [yg]
 | some ys=>simp only [Option.some.injEq,exists_eq_left',yg]; rfl
theorem Cd {sz b:Nat} {ys:List (List D)}:yg sz b .bg h K (some ys)=((∀y∈ys,y.length=sz∧y.all cf=true)∧0<b∧ys≠[]∧ys.length*b≤140737488355328∧∀id,h.f id=none→K (.row id 2 0 ys.length) (h.set id (.gb sz 2 ys []))):=rfl
def MY (sz b r aR off len:Nat) (ys:List (List D)) (h:aa) (K:D→aa→Prop):Option cR→Prop
 | some (.gb gS bW xs f9)=>ys≠[]∧aR=bW∧gS=sz∧off=0∧len=xs.length∧(xs.length+ys.length)*b≤140737488355328∧
       K (.row r (aR+1) 0 (len+ys.length)) (h.set r (.gb sz (aR+1) (xs++ys) ((aR,len)::f9)))
 | some (.row gS bW xs false)=>aR=bW∧gS=sz∧off=0∧len=xs.length∧(xs.length+ys.length)*b≤140737488355328∧
       K (.row r (aR+ys.length) 0 (len+ys.length)) (h.set r (.row sz (aR+ys.length) (xs++ys) false))
 | _=>False
theorem Ce {sz b r aR off len:Nat} {ys:List (List D)}:yg sz b (.row r aR off len) h K (some ys)=((∀y∈ys,y.length=sz∧y.all cf=true)∧0<b∧MY sz b r aR off len ys h K (h.f r)):=by
 simp only [yg]
 congr 2
theorem yj {sz b r aR off len gS bW:Nat} {ys xs:List (List D)} {f9:List (Nat×Nat)}:MY sz b r aR off len ys h K (some (.gb gS bW xs f9))=(ys≠[]∧aR=bW∧gS=sz∧off=0∧len=xs.length∧(xs.length+ys.length)*b≤140737488355328∧
       K (.row r (aR+1) 0 (len+ys.length)) (h.set r (.gb sz (aR+1) (xs++ys) ((aR,len)::f9)))):=rfl
theorem yh {sz b r aR off len gS bW:Nat} {ys xs:List (List D)}:MY sz b r aR off len ys h K (some (.row gS bW xs false))=(aR=bW∧gS=sz∧off=0∧len=xs.length∧(xs.length+ys.length)*b≤140737488355328∧
       K (.row r (aR+ys.length) 0 (len+ys.length)) (h.set r (.row sz (aR+ys.length) (xs++ys) false))):=rfl
theorem wA {ds:List D}:qc h (.agg ds)=plain h (.agg ds):=rfl
theorem CP {ds:List D}:Bc h (.agg ds)=fK h (.agg ds):=rfl
theorem Dm {n:Nat} {x v:D}:d_ T (.iw n x v) h K E=uD (fx (Bc h v) n x (qc h v)) K:=by rw [←uM]; rfl
def stB (n:Nat) (x:D) (K:D→aa→Prop):Option (D×aa)→Prop
 | some p=>uD (fx p.2 n x p.1) K
 | none=>False
theorem Dl {n:Nat} {x v:D}:d_ T (.kz n x v) h K E=stB n x K (NH h v):=by
 simp only [d_]
 generalize NH h v=o
 cases o with
 | none=>rfl
 | some p=>simp only [stB]; rw [←uM]
theorem EA {n:Nat} {x:D} {p:D×aa}:stB n x K (some p)=uD (fx p.2 n x p.1) K:=rfl
theorem yH (s:List UInt8):(∀y∈eP s,y.length=1∧y.all cf=true)=True:=by simp [eP,cf]
end
def BP (aR off len:Nat):Option cR→Option D
 | some (.row sz bW xs fz)=>if aR=bW∧off+len≤xs.length then (if ((xs.drop off).take len).all isByte=true then some (.str (((xs.drop off).take len).map byteOf)) else none) else none
 | _=>none
theorem ze {r aR off len:Nat} {K E:D→aa→Prop}:d_ T (.conv .dW (.row r aR off len)) h K E=ask (BP aR off len (h.f r)) K h:=by
 rw [mn]
 congr 1
 simp only [cK,cO]
 generalize h.f r=o
 cases o with
 | none=>rfl
 | some o=>
  cases o with
  | row sz bW xs fz=>
   simp only [BP]
   by_cases hc:aR=bW∧off+len≤xs.length
   ·rw [if_pos hc,if_pos hc]
   ·rw [if_neg hc,if_neg hc]
  | _=>rfl
theorem xj {aR off len sz bW:Nat} {s:List UInt8} {fz:Bool}:BP aR off len (some (.row sz bW (eP s) fz))=if aR=bW∧off+len≤s.length then some (.str ((s.drop off).take len)) else none:=by
 simp only [BP,vG,vH,uR,uS,nO,if_true]
theorem Dn {s:List UInt8} {K E:D→aa→Prop}:d_ T (.conv .dW (.sl (eP s))) h K E=K (.str s) h:=by
 rw [mn]
 simp only [cK,cO,uR,uS,if_true,ask]
theorem zc {K E:D→aa→Prop}:d_ T (.conv .dW .bg) h K E=K (.str []) h:=by
 rw [mn]
 simp [cK,cO,ask]
theorem c6 {s:dL} {k:List Item} {X:Type} (F:X→List (Nat×D)) (H:X→aa) (μ:X→Nat) (I:X→Prop) (x0:X) (h1:I x0) (h2:MP (F x0) σ) (h3:(H x0).sub h)
  (h4:∀(x:X) (Q:Fr→aa→Prop),I x→(∀x' σ' h',I x'→MP (F x') σ'→(H x').sub h'→μ x'<μ x→Q σ' h')→vc T s (todo T K E (.lp Q::k)) E (Bx (F x)) (H x)):vc T (.loop s) (todo T K E k) E σ h:=by
 refine X6 F H μ I x0 h1 h2 h3 fun x hx=>?_
 refine iA (fun e σ' h' kk=>?_) (fun _ _ _ kk=>kk) (h4 x (fun σ' h'=>∃x',I x'∧MP (F x') σ'∧(H x').sub h'∧μ x'<μ x) hx fun x' σ' h' a b c d=>⟨x',a,b,c,d⟩)
 cases e<;>exact kk
theorem yM {α:Type} {i j:Nat} {x:α} {o:Option α}:((if i=j then some x else o)=none)=(i≠j∧j≠i∧o=none):=by
 by_cases e:i=j
 ·subst e; simp
 ·have:j≠i:=fun x=>e x.symm
  simp [e,this]
theorem CE {s:List UInt8}:(eP s=[])=(s=[]):=by simp [eP]
theorem qC {c:Prop} [Decidable c] {o:Option D} {K:D→aa→Prop}:ask (if c then none else o) K h=(¬c∧ask o K h):=by
 split<;>dj [ask]
def DQ (E:D→aa→Prop):Fr→D→aa→Prop:=fun σ d h=>σ.defs=[]∧E d h
theorem Hv {E:D→aa→Prop} {m:Nat} {env:Nat→D} {d:D} {h:aa}:Ed (DQ E) m [] env d h=E d h:=propext ⟨fun k=>(k ⟨env,[]⟩ rfl fun _ _=>rfl).2,fun k σ e _=>⟨e,k⟩⟩
def Uj (ds:List lv):List (Nat×D)→Fr→Prop
 | [],σ=>σ.defs=ds
 | (j,d)::l,σ=>σ.env j=d∧Uj ds l σ
theorem Ib {ds:List lv} {σ:Fr}:Uj ds [] σ=(σ.defs=ds):=rfl
theorem Dv {ds:List lv} {j:Nat} {d:D} {l:List (Nat×D)} {σ:Fr}:Uj ds ((j,d)::l) σ=(σ.env j=d∧Uj ds l σ):=rfl
theorem Gy {ds:List lv}:∀{l:List (Nat×D)} {σ:Fr},Uj ds l σ→(zy l ds).le σ
 | [],σ,h=>⟨fun _=>.inl rfl,h.symm⟩
 | (j,d)::l,σ,h=>by
  have ih:=Gy h.2
  refine ⟨fun i=>?_,ih.2⟩
  simp only [zy,gQ]
  by_cases e:i=j
  ·subst e; rw [if_pos rfl]; exact .inr h.1.symm
  ·rw [if_neg e]; exact ih.1 i
theorem zA (l:List (Nat×D)) (ds:List lv) (i:Nat):(zy l ds).env i=gQ l i:=rfl
theorem wj (l:List (Nat×D)) (ds:List lv):(zy l ds).defs=ds:=rfl
def OY (T:bm) (K:Ex→Fr→aa→Prop) (E:Fr→D→aa→Prop) (k:List Item) (σ:Fr) (h:aa) (as:List D):D→Prop
 | .func (.func f) first cap=>todo T K E k .normal { σ with defs:=⟨.func f,cap,first++as⟩::σ.defs } h
 | _=>False
theorem z8 {k:List Item} {f:f7} {as:List f7}:vc T (.defer f as) (todo T K E k) E σ h=OY T K E k σ h (as.map σ.ev) (σ.ev f):=by
 show (match σ.ev f with | .func (.func f) first cap=>_ | _=>False)=_
 generalize σ.ev f=d
 cases d with
 | func fn first cap=>cases fn<;>rfl
 | _=>rfl
theorem tL {k:List Item} {f:FuncId} {first cap as:List D}:OY T K E k σ h as (.func (.func f) first cap)=todo T K E k .normal { σ with defs:=⟨.func f,cap,first++as⟩::σ.defs } h:=rfl
theorem Fr.CI {σ:Fr} {ds:List lv} {i:Nat}:({ σ with defs:=ds }:Fr).env i=σ.env i:=rfl
theorem Fr.yF {σ:Fr} {ds:List lv}:({ σ with defs:=ds }:Fr).defs=ds:=rfl
theorem sS {s:dL} {k:List Item} {X:Type} (ds:List lv) (F:X→List (Nat×D)) (H:X→aa) (μ:X→Nat) (I:X→Prop) (x0:X) (h1:I x0) (h2:Uj ds (F x0) σ) (h3:(H x0).sub h)
  (h4:∀(x:X) (Q:Fr→aa→Prop),I x→(∀x' σ' h',I x'→Uj ds (F x') σ'→(H x').sub h'→μ x'<μ x→Q σ' h')→vc T s (todo T K E (.lp Q::k)) E (zy (F x) ds) (H x)):vc T (.loop s) (todo T K E k) E σ h:=by
 refine ⟨X,fun x=>zy (F x) ds,H,μ,I,x0,h1,Gy h2,h3,fun x hx=>?_⟩
 refine iA (fun e σ' h' kk=>?_) (fun _ _ _ kk=>kk) (h4 x (fun σ' h'=>∃x',I x'∧Uj ds (F x') σ'∧(H x').sub h'∧μ x'<μ x) hx fun x' σ' h' a b c d=>⟨x',a,b,c,d⟩)
 cases e with
 | normal=>obtain ⟨x',a,b,c⟩:=kk; exact ⟨x',a,Gy b,c⟩
 | _=>exact kk
theorem aQ.run [aN] {P:Program} (hT:T.ok P) {f:FuncId} {s:dL} {rs:List eK} {m:Nat} {pl:cj} {args:List D} {h:aa} {K:D→aa→Prop} (hs:bJ P f pl=some (s,rs,m)) (hn:args.length≤m)
  (hv:∀(E:Fr→D→aa→Prop),vc T s (todo T (G3 rs K) E []) E (f8 args) h):aQ P f args h fun o h'=>∃d,o=.ret d∧K d h':=
 aQ.aae hT hs hn (hv _)
theorem aO.run [aN] {P:Program} (hT:T.ok P) {f:FuncId} {s:dL} {rs:List eK} {m:Nat} {pl:cj} {args:List D} {d:D} (hs:bJ P f pl=some (s,rs,m)) (hn:args.length≤m)
  (hv:∀(E:Fr→D→aa→Prop),vc T s (todo T (sR rs fun o _=>o=.ret d) E []) E (f8 args) .emp):aO P f args d:=
 aQ.my hT hs hn (hv _)
def aaN (rs:List eK) (K:D→aa→Prop) (e:Ex) (σ:Fr) (h:aa):Prop:=
 match e with
 | .exit _=>False
 | _=>σ.defs=[]∧∃ds,eg σ h rs=some ds∧∃h',h'.sub (ff h ds)∧K (xx (ds.map (plain h))) h'
theorem Ef {rs:List eK} {K:D→aa→Prop} {σ:Fr} {h:aa}:aaN rs K .ret σ h=(σ.defs=[]∧∃ds,eg σ h rs=some ds∧∃h',h'.sub (ff h ds)∧K (xx (ds.map (plain h))) h'):=rfl
theorem tO {rs:List eK} {K:D→aa→Prop} {σ:Fr} {h:aa}:aaN rs K .normal σ h=(σ.defs=[]∧∃ds,eg σ h rs=some ds∧∃h',h'.sub (ff h ds)∧K (xx (ds.map (plain h))) h'):=rfl
theorem tK:plain h (.undef)=.undef:=rfl
theorem yU:fK h (.undef)=h:=rfl
theorem wC {b:Bool}:plain h (.bool b)=.bool b:=rfl
theorem CS {b:Bool}:fK h (.bool b)=h:=rfl
theorem zR {k:IntKind} {n:Int}:plain h (.int k n)=.int k n:=rfl
theorem HT {k:IntKind} {n:Int}:fK h (.int k n)=h:=rfl
theorem tF {k:FloatKind} {n:Nat}:plain h (.float k n)=.float k n:=rfl
theorem yP {k:FloatKind} {n:Nat}:fK h (.float k n)=h:=rfl
theorem zW {s:List UInt8}:plain h (.str s)=.str s:=rfl
theorem HX {s:List UInt8}:fK h (.str s)=h:=rfl
theorem rb:plain h (.gg)=.gg:=rfl
theorem vP:fK h (.gg)=h:=rfl
theorem zT {a b c:Nat}:plain h (.ptr a b c)=.ptr a b c:=rfl
theorem HV {a b c:Nat}:fK h (.ptr a b c)=h:=rfl
theorem wD {a:List D} {b:Nat}:plain h (.c8 a b)=.c8 a b:=rfl
theorem CT {a:List D} {b:Nat}:fK h (.c8 a b)=h:=rfl
theorem wF {a b c d:Nat}:plain h (.eM a b c d)=.eM a b c d:=rfl
theorem CV {a b c d:Nat}:fK h (.eM a b c d)=h:=rfl
theorem DZ {xs:List (List D)}:plain h (.sl xs)=.sl xs:=rfl
theorem N0 {xs:List (List D)}:fK h (.sl xs)=h:=rfl
theorem zQ {a b c:Nat}:plain h (.r7 a b c)=.r7 a b c:=rfl
theorem HS {a b c:Nat}:fK h (.r7 a b c)=h:=rfl
theorem tJ {ds:List D}:plain h (.tuple ds)=.tuple ds:=rfl
theorem yT {ds:List D}:fK h (.tuple ds)=h:=rfl
theorem wE {fn:Fn} {a b:List D}:plain h (.func fn a b)=.func fn a b:=rfl
theorem CU {fn:Fn} {a b:List D}:fK h (.func fn a b)=h:=rfl
theorem pK:plain h (.eU)=.eU:=rfl
theorem s9:fK h (.eU)=h:=rfl
theorem tG {t:TypeId} {d:D}:plain h (.iface t d)=.iface t d:=rfl
theorem yQ {t:TypeId} {d:D}:fK h (.iface t d)=h:=rfl
theorem tH:plain h (.fV)=.fV:=rfl
theorem yR:fK h (.fV)=h:=rfl
theorem zS {a:Nat}:plain h (.map a)=.map a:=rfl
theorem HU {a:Nat}:fK h (.map a)=h:=rfl
theorem q_:plain h (.iY)=.iY:=rfl
theorem vO:fK h (.iY)=h:=rfl
theorem tI:plain h .bg=.sl []:=rfl
theorem yS:fK h .bg=h:=rfl
def plR (aR off len:Nat):Option cR→D
 | some (.row sz bW xs fz)=>if aR=bW∧off+len≤xs.length then .sl ((xs.drop off).take len) else .undef
 | _=>.undef
theorem zV {r aR off len:Nat}:plain h (.row r aR off len)=plR aR off len (h.f r):=by
 simp only [plain]
 generalize h.f r=o
 cases o with
 | none=>rfl
 | some o=>cases o<;>rfl
theorem Iv {aR off len sz bW:Nat} {xs:List (List D)} {fz:Bool}:plR aR off len (some (.row sz bW xs fz))=if aR=bW∧off+len≤xs.length then .sl ((xs.drop off).take len) else .undef:=rfl
def Zn (h:aa) (r:Nat):Option cR→aa
 | some (.row sz aR xs _)=>h.set r (.row sz aR xs true)
 | _=>h
theorem HW {r aR off len:Nat}:fK h (.row r aR off len)=Zn h r (h.f r):=by
 show eB h r=_
 unfold eB
 cases e:h.f r with
 | none=>rfl
 | some o=>cases o<;>rfl
theorem CR {r sz aR:Nat} {xs:List (List D)} {fz:Bool}:Zn h r (some (.row sz aR xs fz))=h.set r (.row sz aR xs true):=rfl
theorem CQ:ff h []=h:=rfl
theorem yN {d:D} {ds:List D}:ff h (d::ds)=ff (fK h d) ds:=rfl
def yb (h:aa):D→D
 | .bg=>.sl []
 | .row r aR off len=>plR aR off len (h.f r)
 | d=>d
theorem wB {ds:List D}:plain h (.agg ds)=.agg (ds.map (yb h)):=by
 rw [j_]
 congr 1
theorem zM:yb h .bg=.sl []:=rfl
theorem It {r aR off len:Nat}:yb h (.row r aR off len)=plR aR off len (h.f r):=rfl
theorem zP:yb h (.undef)=.undef:=rfl
theorem DV {b:Bool}:yb h (.bool b)=.bool b:=rfl
theorem Iq {k:IntKind} {n:Int}:yb h (.int k n)=.int k n:=rfl
theorem zJ {k:FloatKind} {n:Nat}:yb h (.float k n)=.float k n:=rfl
theorem Iu {s:List UInt8}:yb h (.str s)=.str s:=rfl
theorem wz:yb h (.gg)=.gg:=rfl
theorem Is {a b c:Nat}:yb h (.ptr a b c)=.ptr a b c:=rfl
theorem DW {a:List D} {b:Nat}:yb h (.c8 a b)=.c8 a b:=rfl
theorem DY {a b c d:Nat}:yb h (.eM a b c d)=.eM a b c d:=rfl
theorem OW {xs:List (List D)}:yb h (.sl xs)=.sl xs:=rfl
theorem Ip {a b c:Nat}:yb h (.r7 a b c)=.r7 a b c:=rfl
theorem zO {ds:List D}:yb h (.tuple ds)=.tuple ds:=rfl
theorem DX {fn:Fn} {a b:List D}:yb h (.func fn a b)=.func fn a b:=rfl
theorem tD:yb h (.eU)=.eU:=rfl
theorem zK {t:TypeId} {d:D}:yb h (.iface t d)=.iface t d:=rfl
theorem zL:yb h (.fV)=.fV:=rfl
theorem Ir {a:Nat}:yb h (.map a)=.map a:=rfl
theorem wy:yb h (.iY)=.iY:=rfl
def aa.Ha (S:List Nat) (h h':aa):Prop:=∀j o,j ∉ S→h.f j=some o→h'.f j=some o
theorem aa.dV {h h':aa} (s:aa.Ha [] h h'):h.sub h':=fun j o e=>s j o (by simp) e
theorem aa.bK {S:List Nat} {h:aa}:aa.Ha S h h:=fun _ _ _ e=>e
theorem aa.cU {S:List Nat} {i:Nat} {o:cR} {h h':aa} (e:h'.f i=some o) (s:aa.Ha (i::S) h h'):aa.Ha S (h.set i o) h':=fun j p hj hp=>by
 simp only [aa.dN] at hp
 split at hp
 ·ab e1; cases hp; rw [e1]; exact e
 ·ab e1; exact s j p (by simp [e1,hj]) hp
theorem aa.cZ {S:List Nat} {i:Nat} {o:cR} {h h':aa} (hi:i∈S∨h.f i=none) (s:aa.Ha S h h'):aa.Ha S h (h'.set i o):=fun j p hj hp=>by
 have:j≠i:=fun e=>by
  subst e
  rcases hi with hi | hi
  ·exact hj hi
  ·rw [hi] at hp; cases hp
 simp only [aa.dN,if_neg this]
 exact s j p hj hp
theorem aa.bO {S:List Nat} {h:aa}:aa.Ha S .emp h:=fun _ _ _ e=>by cases e
theorem CZ:fK h (.agg [])=h:=rfl
theorem C1 {r v o l:Nat} {ds:List D}:fK h (.agg (.row r v o l::ds))=fK (fK h (.row r v o l)) (.agg ds):=rfl
theorem vU {ds:List D}:fK h (.agg (.undef::ds))=fK h (.agg ds):=rfl
theorem yV {b:Bool} {ds:List D}:fK h (.agg (.bool b::ds))=fK h (.agg ds):=rfl
theorem CX {k:IntKind} {n:Int} {ds:List D}:fK h (.agg (.int k n::ds))=fK h (.agg ds):=rfl
theorem vQ {k:FloatKind} {n:Nat} {ds:List D}:fK h (.agg (.float k n::ds))=fK h (.agg ds):=rfl
theorem C2 {s:List UInt8} {ds:List D}:fK h (.agg (.str s::ds))=fK h (.agg ds):=rfl
theorem tb {ds:List D}:fK h (.agg (.gg::ds))=fK h (.agg ds):=rfl
theorem C0 {a b c:Nat} {ds:List D}:fK h (.agg (.ptr a b c::ds))=fK h (.agg ds):=rfl
theorem yW {a:List D} {b:Nat} {ds:List D}:fK h (.agg (.c8 a b::ds))=fK h (.agg ds):=rfl
theorem yY {a b c d:Nat} {ds:List D}:fK h (.agg (.eM a b c d::ds))=fK h (.agg ds):=rfl
theorem vT {ds:List D}:fK h (.agg (.bg::ds))=fK h (.agg ds):=rfl
theorem HY {xs:List (List D)} {ds:List D}:fK h (.agg (.sl xs::ds))=fK h (.agg ds):=rfl
theorem CW {a b c:Nat} {ds:List D}:fK h (.agg (.r7 a b c::ds))=fK h (.agg ds):=rfl
theorem yX {fn:Fn} {a b:List D} {ds:List D}:fK h (.agg (.func fn a b::ds))=fK h (.agg ds):=rfl
theorem qK {ds:List D}:fK h (.agg (.eU::ds))=fK h (.agg ds):=rfl
theorem vR {t:TypeId} {d:D} {ds:List D}:fK h (.agg (.iface t d::ds))=fK h (.agg ds):=rfl
theorem vS {ds:List D}:fK h (.agg (.fV::ds))=fK h (.agg ds):=rfl
theorem CY {a:Nat} {ds:List D}:fK h (.agg (.map a::ds))=fK h (.agg ds):=rfl
theorem s_ {ds:List D}:fK h (.agg (.iY::ds))=fK h (.agg ds):=rfl
theorem zd {x:Int} {K E:D→aa→Prop}:d_ T (.conv .dW (.sl [[.int .u8 x]])) h K E=K (.str [UInt8.ofNat x.toNat]) h:=by
 rw [mn]
 simp [cK,cO,isByte,byteOf,ask]
end Go.Proofs.YtpklkpkfgmoghaaGreatDoor.Zz
namespace Go.Proofs.YtpklkpkfgmoghaaGreatDoor.Zz
open Go.RowKit
def f9 (w:World):cp:={ gJ:=fun b=>b<w.heap.size,loc:=fun _=>none }
theorem SC [aN] (w:World) (hg:gn (f9 w) w):Inv (f9 w) .emp w:=
 ⟨fun b h=>h,fun i p h=>(by cases h),⟨0,fun _ _=>rfl⟩,fun i o h=>(by cases h),fun i j oi oj pi pj b h=>(by cases h),hg⟩
theorem WD [aN] {P:Program} {f:FuncId} {args:List D} (c:aO P f args (.bool true)) {vs:Array Value} {w:World} (hg:gn (f9 w) w) (hr:bP (f9 w) w vs.toList args):
  Calls P f vs w fun e w'=>e=.returned (.bool true)∧Below w.heap.size w w':=
 (c.2 (f9 w) w vs (SC w hg) hr).mono fun e w' ⟨o,h',κ',e1,r,i,ev⟩=>by
  subst e1
  cases r with
  | ret r=>
   cases r
   refine ⟨rfl,ev.os,ev.tape,ev.output,ev.size,fun k hk=>ev.blocks k hk fun ho=>?_⟩
   obtain ⟨id,o,p,h,_⟩:=ho
   simp at h
theorem G1 {κ:cp} {w:World} {s:ByteArray} (h:s.size≤maxLen):cd κ w (.string s) (.str s.data.toList):=by
 have:=cd.str (κ:=κ) (w:=w) s.data.toList (by
  have:s.data.toList.length=s.size:=by simp
  rw [this]
  have h2:maxLen≤9223372036854775807:=by decide
  omega)
 simpa using this
theorem HG {w:World} {b o:Nat} {v:Value} (h:w.cell? ⟨b,o,none⟩=some v):b<w.heap.size:=by
 simp only [World.cell?] at h
 cases e:w.heap[b]? with
 | none=>simp [e] at h
 | some x=>exact (Array.getElem?_eq_some_iff.1 e).1
theorem wR {w:World} {a:Addr} {len cap:Nat} (f:Nat→Value) (g:Nat→D) (hl:len≤cap) (hm:cap≤maxLen) (hc:∀i,i<len→w.cell? (a.add i)=some (f i)) (hr:∀i,i<len→cd (f9 w) w (f i) (g i)):
  cd (f9 w) w (.slice (some a) len cap) (.sl ((List.range len).map fun i=>[g i])):=by
 by_cases h0:len=0
 ·subst h0; exact .slnil (fun h=>by cases h)
 ·obtain ⟨b,o,sp⟩:=a
  have hs:sp=none:=by simpa [Addr.add] using World.cell?_spot (hc 0 (by omega))
  subst hs
  have h2:maxLen≤9223372036854775807:=by decide
  have get:∀{i:Nat} {x:List D} {j:Nat} {d:D},((List.range len).map fun i=>[g i])[i]? =some x→x[j]? =some d→i<len∧j=0∧d=g i:=fun {i x j d} h1 h3=>by
   rw [List.getElem?_map] at h1
   by_cases hi:i<len
   ·rw [List.getElem?_range hi] at h1
    simp only [Option.map_some,Option.some.injEq] at h1
    subst h1
    cases j with
    | zero=>simp at h3; exact ⟨hi,rfl,h3.symm⟩
    | succ j=>simp at h3
   ·rw [List.getElem?_eq_none (by simp; omega)] at h1; cases h1
  have iM:∀i,i<len→w.cell? ⟨b,o+i,none⟩=some (f i):=fun i hi=>by
   have:=hc i hi
   unfold Addr.add at this
   split at this
   ·ab e; subst e; simpa using this
   ·simpa using this
  refine cd.Ew (sz:=1) (by simp) (fun i _=>f i) (by simp; omega) (by simp; omega) (by simp) (fun i x j d h1 h3=>?_) (fun i x j d h1 h3=>?_)
  ·obtain ⟨hi,rfl,rfl⟩:=get h1 h3
   have:=iM i hi
   exact ⟨HG this,by simpa using this⟩
  ·obtain ⟨hi,rfl,rfl⟩:=get h1 h3
   exact hr i hi
section
variable {H:Type} {enc:TypeId×Value→H} {P:Program} {w:World} {spare:Nat→Bool} {held:Bool}
theorem Oq {t e:TypeId} {k:IntKind} {a:Option Addr} {len cap:Nat} {d:DataW H} {ps:List MemPlace} (ht:P.underlying t=some (.slice e)) (he:P.underlying e=some (.int k)) (hc:P.cellsOf e=1)
  (h:DataW.Trod enc P w 0 spare held t (.slice a len cap) d ps):∃l:List Int,(∀n∈l,(Lit.int k n).wf=true)∧cd (f9 w) w (.slice a len cap) (.sl (l.map fun n=>[.int k n])):=by
 obtain ⟨fuel,hf⟩:=h
 rcases Go.ChangeShapes.open_ints ht he hc hf with ⟨FK,_⟩ | ⟨x,l,c,zs,FK,_,hl,hm,hz,_,iM,hwz⟩
 ·simp [Value.cells] at FK
  obtain ⟨rfl,rfl,rfl⟩:=FK
  exact ⟨[],by simp,.slnil (fun _=>rfl)⟩
 ·simp [Value.cells] at FK
  obtain ⟨rfl,rfl,rfl⟩:=FK
  have hlz:len≤zs.length:=by rw [hz]; split<;>omega
  refine ⟨(List.range len).map fun i=>zs.getD i 0,?_,?_⟩
  ·intro n hn
   obtain ⟨i,hi,rfl⟩:=List.mem_map.1 hn
   have hi:=List.mem_range.1 hi
   apply hwz
   rw [List.getD_eq_getElem?_getD,List.getElem?_eq_getElem (by omega)]
   exact List.getElem_mem _
  ·rw [List.map_map]
   exact wR (fun i=>.int k (zs.getD i 0)) (fun i=>.int k (zs.getD i 0)) hl hm (fun i hi=>iM i (by omega)) (fun i hi=>.int k _)
theorem abN {t e:TypeId} {a:Option Addr} {len cap:Nat} {d:DataW H} {ps:List MemPlace} (ht:P.underlying t=some (.slice e)) (he:P.underlying e=some .string) (hc:P.cellsOf e=1)
  (h:DataW.Trod enc P w 0 spare held t (.slice a len cap) d ps):∃l:List (List UInt8),cd (f9 w) w (.slice a len cap) (.sl (l.map fun s=>[.str s])):=by
 obtain ⟨fuel,hf⟩:=h
 rcases Go.ah0.Yw ht he hc hf with ⟨FK,_⟩ | ⟨x,l,c,m,Sx,FK,_,hl,hm,hz,_,iM⟩
 ·simp [Value.cells] at FK
  obtain ⟨rfl,rfl,rfl⟩:=FK
  exact ⟨[],.slnil (fun _=>rfl)⟩
 ·simp [Value.cells] at FK
  obtain ⟨rfl,rfl,rfl⟩:=FK
  have hlz:len≤m:=by rw [hz]; split<;>omega
  refine ⟨(List.range len).map fun i=>(Sx i).data.toList,?_⟩
  ·rw [List.map_map]
   exact wR (fun i=>.string (Sx i)) (fun i=>.str (Sx i).data.toList) hl hm (fun i hi=>(iM i (by omega)).1) (fun i hi=>G1 (iM i (by omega)).2)
theorem aay {κ:cp} {t:TypeId} {f0 f1:Field} {k0 k1:IntKind} {cs:Array Value} {d:DataW H} {ps:List MemPlace} (ht:P.underlying t=some (.struct #[f0,f1])) (h0:P.underlying f0.type=some (.int k0)) (h1:P.underlying f1.type=some (.int k1))
  (hc:P.cellsOf t=2) (c0:P.cellsOf f0.type=1) (c1:P.cellsOf f1.type=1) (o0:f0.offset=0) (o1:f1.offset=1)
  (h:DataW.Trod enc P w 0 spare held t (.agg cs) d ps):∃n m:Int,(Lit.int k0 n).wf=true∧(Lit.int k1 m).wf=true∧cd κ w (.agg cs) (.agg [.int k0 n,.int k1 m]):=by
 obtain ⟨fuel,hf⟩:=h
 obtain ⟨y0,y1,n,_,hl,g0,g1⟩:=Go.ChangeShapes.trod_struct2 ht hf
 rw [o0,c0] at g0
 rw [o1,c1] at g1
 rw [hc] at hl
 obtain ⟨a,e0,_,w0⟩:=DataW.trod_int h0 g0
 obtain ⟨b,e1,_,w1⟩:=DataW.trod_int h1 g1
 simp only [Value.cells] at hl e0 e1
 have FK:cs= #[.int k0 a,.int k1 b]:=by
  obtain ⟨l⟩:=cs
  match l,hl with
  | [u,v],_=>
   simp at e0 e1
   rw [e0,e1]
 subst FK
 refine ⟨a,b,w0,w1,.agg rfl fun i d hd=>?_⟩
 match i,hd with
 | 0,hd=>simp at hd; subst hd; exact .int _ _
 | 1,hd=>simp at hd; subst hd; exact .int _ _
end
end Go.Proofs.YtpklkpkfgmoghaaGreatDoor.Zz
namespace Go.Proofs.YtpklkpkfgmoghaaGreatDoor.Zz
open Go.RowKit
section
variable {P:Program} {w:World}
theorem Du:∀{laid:List (String×DataW Unit)} {ps:List MemPlace},DataW.LaidVars P w laid ps→∀{i:Nat} {n:String} {d:DataW Unit},laid[i]? =some (n,d)→
  ∃g t cs fuel p,P.globalNamed n=some g∧(P.globals[g]?).map (·.type)=some t∧w.var? P n=some cs∧DataW.trod (fun _=>()) P w 0 (fun _=>true) false fuel t cs.toList=some (d,p)∧∀x∈MemPlace.row ⟨g,0,none⟩ cs.size,x∈ps
 | [],ps,_,i,n,d,e=>by simp at e
 | (m,c)::r,ps,h,i,n,d,e=>by
  obtain ⟨g,t,cs,fuel,p,q,h1,h2,h3,h4,h5,h6⟩:=h
  cases i with
  | zero=>
   cases e
   exact ⟨g,t,cs,fuel,p,h1,h2,h3,h4,fun x hx=>by rw [h6]; simp [hx]⟩
  | succ i=>
   obtain ⟨g',t',xH,Zp,p',k1,k2,k3,k4,k5⟩:=Du h5 (i:=i) (by simpa using e)
   exact ⟨g',t',xH,Zp,p',k1,k2,k3,k4,fun x hx=>by rw [h6]; simp [k5 x hx]⟩
theorem LQ {κ:cp} {laid:List (String×DataW Unit)} (h:laidMet P laid w) {i:Nat} {n:String} {g N:Nat} {t e:TypeId} {k:IntKind} (zs:List Int) (hm:laid[i]? =some (n,.agg (zs.map fun z=>.lit (.int k z))))
  (hg:P.globalNamed n=some g) (ht:(P.globals[g]?).map (·.type)=some t) (hu:P.underlying t=some (.array N e)) (he:P.underlying e=some (.int k)) (hc:P.cellsOf t=N) (ce:P.cellsOf e=1) (h0:0<N):
  ∃(cs:Array Value) (ty:TypeId),w.heap[g]? =some (.cells cs ty (0,0))∧cs.size=zs.length∧∀(j:Nat) (d:D),(zs.map fun z=>D.int k z)[j]? =some d→∃v,cs[j]? =some v∧cd κ w v d:=by
 obtain ⟨ps,hl,_,iM⟩:=h
 obtain ⟨g',t',cs,fuel,p,k1,k2,k3,k4,k5⟩:=Du hl hm
 rw [hg] at k1
 cases k1
 rw [ht] at k2
 cases k2
 obtain ⟨xs,m,_,hx,hs,hn,hat⟩:=DataW.XZ hu k4
 rw [ce] at hat
 have FK:cs.size=N:=by simpa [hc] using hs
 have hzx:zs.map (fun z=>DataW.lit (H:=Unit) (.int k z))=xs.map (·.1):=by injection hx with h1 h2; injection h1
 have RA:zs.length=N:=by have:=congrArg List.length hzx; simp at this; omega
 obtain ⟨c,ty,hh⟩:=(iM g 0 (k5 _ (by
  simp only [MemPlace.row,List.mem_map,List.mem_range]
  exact ⟨0,by omega,rfl⟩))).1
 have kR:c=cs:=by
  simp only [World.var?,hg,Option.bind_some,hh] at k3
  exact Option.some.inj k3
 subst kR
 refine ⟨c,ty,hh,by omega,fun j d hd=>?_⟩
 have hj:j<N:=by have:=(List.getElem?_eq_some_iff.1 hd).1; simp at this; omega
 have g1:=hat j hj
 have e1:(c.toList.drop (j*1)).take 1=[c[j]'(by omega)]:=by
  rw [Nat.mul_one,List.drop_eq_getElem_cons (by simp; omega)]
  simp
 rw [e1,List.getElem?_eq_getElem (by omega)] at g1
 obtain ⟨a,e2,e3,_⟩:=DataW.trod_int he g1
 have e4:c[j]'(by omega)=.int k a:=by simpa using e2
 have e5:zs[j]'(by omega)=a:=by
  have:=congrArg (fun l:List (DataW Unit)=>l[j]?) hzx
  simp only [List.getElem?_map,List.getElem?_eq_getElem (show j<zs.length by omega),List.getElem?_eq_getElem (show j<xs.length by omega),Option.map_some,Option.some.injEq] at this
  rw [e3] at this
  simpa using this
 have e6:d=.int k a:=by
  simp only [List.getElem?_map,List.getElem?_eq_getElem (show j<zs.length by omega),Option.map_some,Option.some.injEq,e5] at hd
  exact hd.symm
 refine ⟨.int k a,by rw [Array.getElem?_eq_getElem (by omega),e4],?_⟩
 rw [e6]
 exact .int k a
end
section
variable {H:Type} {enc:TypeId×Value→H}
theorem BJ {a:Assume} {C:Checked} {os:Os} {f:FuncId} {fn:Func} {s:ChangeSpec} {conds:List PathCond} {apart fresh handsOn again:Bool} {X:World→Array Value→Prop}
  (hX:∀(w w':World) (args:Array Value),w.heap=w'.heap→X w args→X w' args)
  (own:ownKnob C.prog.godebug=none) (started:os.Started) (WO:C.prog.inits.idxOf? f=none) (Yj:C.prog.funcs[f]? =some fn)
  (witness:∃(w:World) (tape:Tape) (i:Input),w.os=os∧(w.forCall tape i).Shaped C.prog∧i.vars=[]∧Input.okWide C.prog (w.forCall tape i) .any w.heap.size f i∧
   ((s.pre enc C.prog fn conds apart (w.forCall tape i).memory i.args∧X (w.forCall tape i).memory i.args)∧sizedMet enc C.prog fn (OpenSpec.ofChange s) apart (w.forCall tape i).memory i.args)∧a.holds C.prog (lone (Frame.enter C.prog f i.args .normal) [] (w.forCall tape i)))
  (NF:∀(W:World) (base:Nat) (args:Array Value) (ds gs:List (DataW H)) (before:List MemPlace),
   (∀(j:Nat) t v,fn.params[j]? =some t→args[j]? =some v→Value.okWide C.prog W .any base t v)→
   DataW.Whole enc C.prog fn.params.toList s.vars apart W args.toList ds gs before→
   conds.all (PathCond.test C.prog ⟨fn.params.toList,ds,s.plain.varTypes C.prog,gs⟩)=true→X W args→W.ShapedOpen C.prog→
   Calls C.prog f args W fun e W'=>∃v,e=.returned v∧s.post enc C.prog fn apart fresh handsOn again W args v W'):
  ReturnsInHanded a C os f .any (fun w args=>(s.pre enc C.prog fn conds apart w args∧X w args)∧sizedMet enc C.prog fn (OpenSpec.ofChange s) apart w args) (s.post enc C.prog fn apart fresh handsOn again):=by
 refine returnsInHanded_of_calls own started WO witness ?_
 intro w tape i _ hsh _ kT Oe _
 obtain ⟨_,_,_,fn',adz,_,_,_,_,su⟩:=kT
 have e:fn'=fn:=Option.some.inj (adz.symm.trans Yj)
 subst e
 obtain ⟨⟨⟨ds,gs,before,hw,hc⟩,hx⟩,hz⟩:=Oe
 have hw':=DataW.Whole.of_heap (w':=w.forCall tape i) (by rfl) hw
 refine (NF (w.forCall tape i) w.heap.size i.args ds gs before su hw' hc (hX _ _ _ (by rfl) hx) hsh).mono fun e W' ⟨v,he,hp⟩=>?_
 subst he
 exact ChangeSpec.post_blind hp
end
def cellsOf:DataW Unit→List Value
 | .agg xs=>xs.flatMap fun
  | .lit (.int k n)=>[.int k n]
  | .agg ys=>ys.flatMap fun
   | .lit (.int k n)=>[.int k n]
   | _=>[]
  | _=>[]
 | _=>[]
def NY (h:Array Obj):List (Nat×Array Value)→Array Obj
 | []=>h
 | (g,cs)::r=>NY (h.modify g fun
   | .cells _ t fz=>.cells cs t fz
   | o=>o) r
theorem aO.toA [aN] {P:Program} {f:FuncId} {args:List D} {d:D} (hv:aO P f args d) (h:aa):aQ P f args h fun o h'=>o=.ret d∧h'=h:=by
 refine ⟨hv.1,fun κ w vs hi hr=>?_⟩
 have sub:=aa.jb h
 refine (hv.2 κ w vs (hi.sub sub) hr).mono fun e w' ⟨o,h',gP,a0,a2,a3,a4⟩=>?_
 subst a0
 obtain ⟨f1,f2,_⟩:=hi.frame sub a3 a4
 have Py:h.sub (h'.union (h.minus .emp)):=fun id o ho=>by
  obtain ⟨p,hp,_⟩:=hi.obj id o ho
  have:=a4.ids id p hp rfl
  simpa [aa.union,aa.minus,this] using ho
 exact ⟨.ret d,h,gP,⟨rfl,rfl⟩,a2,f1.sub Py,{ f2 with own:=fun b hb ho=>f2.own b hb (ho.sub Py),ids:=fun id p hp hn=>hn }⟩
end Go.Proofs.YtpklkpkfgmoghaaGreatDoor.Zz
