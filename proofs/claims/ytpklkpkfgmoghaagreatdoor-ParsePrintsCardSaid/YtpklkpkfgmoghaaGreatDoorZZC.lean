/- Running code by laws: what is left to do is data, so that nothing is looked at before its turn. -/
import Derived.Test.YtpklkpkfgmoghaaGreatDoorZU
import Derived.Below
import Derived.ChangeSlices
import Derived.ChangeSame
import Derived.Deep.Strs
import Derived.LaidLaws
import Derived.Deep.DeepLaidRun
import Derived.Handed
import Derived.HandedShaped
import Derived.OpenShut
import Derived.MakeChecks
import Derived.Shelf.Vars
set_option linter.unnecessarySimpa false
set_option linter.unusedVariables false
set_option linter.unusedSimpArgs false
namespace Go.Proofs.YtpklkpkfgmoghaaGreatDoor.Zz
variable {T:bf} {K:Ex→Fr→aa→Prop} {E:Fr→D→aa→Prop} {σ:Fr} {h:aa}
inductive Item where
 | stm (s:dA)
 | blk (id:Nat)
 | lp (Q:Fr→aa→Prop)
def todo (T:bf) (K:Ex→Fr→aa→Prop) (E:Fr→D→aa→Prop):List Item→Ex→Fr→aa→Prop
 | [],e,σ,h=>K e σ h
 | .stm s::k,e,σ,h=>match e with
  | .normal=>vc T s (todo T K E k) E σ h
  | e=>todo T K E k e σ h
 | .blk id::k,e,σ,h=>match e with
  | .exit i=>if i=id then todo T K E k .normal σ h else todo T K E k (.exit i) σ h
  | e=>todo T K E k e σ h
 | .lp Q::k,e,σ,h=>match e with
  | .normal=>Q σ h
  | e=>todo T K E k e σ h
theorem dz {s:dA}:vc T s K E σ h=vc T s (todo T K E []) E σ h:=by
 congr 1
theorem DX {k:List Item}:vc T .skip (todo T K E k) E σ h=todo T K E k .normal σ h:=rfl
theorem DW {id:Nat} {k:List Item}:vc T (.exit id) (todo T K E k) E σ h=todo T K E k (.exit id) σ h:=rfl
theorem H5 {k:List Item}:vc T .ret (todo T K E k) E σ h=todo T K E k .ret σ h:=rfl
theorem run_seq {a b:dA} {k:List Item}:vc T (.seq a b) (todo T K E k) E σ h=vc T a (todo T K E (.stm b::k)) E σ h:=by
 show vc T a _ E σ h=vc T a _ E σ h
 congr 1
theorem zG {id:Nat} {s:dA} {k:List Item}:vc T (.block id s) (todo T K E k) E σ h=vc T s (todo T K E (.blk id::k)) E σ h:=by
 show vc T s _ E σ h=vc T s _ E σ h
 congr 1
def Oa (T:bf) (K:Ex→Fr→aa→Prop) (E:Fr→D→aa→Prop) (c:fS) (a b:dA) (k:List Item) (σ:Fr) (h:aa):D→Prop
 | .bool t=>(t=true→vc T a (todo T K E k) E (σ.mark c true) h)∧(t=false→vc T b (todo T K E k) E (σ.mark c false) h)
 | _=>False
theorem DV {c:fS} {a b:dA} {k:List Item}:vc T (.cond c a b) (todo T K E k) E σ h=Oa T K E c a b k σ h (σ.ev c):=by
 show (match σ.ev c with | .bool t=>_ | _=>False)=_
 generalize σ.ev c=d
 cases d<;>rfl
theorem Gp {c:fS} {a b:dA} {k:List Item} {t:Bool}:Oa T K E c a b k σ h (.bool t)=((t=true→vc T a (todo T K E k) E (σ.mark c true) h)∧(t=false→vc T b (todo T K E k) E (σ.mark c false) h)):=rfl
theorem EX {s:dA} {k:List Item}:todo T K E (.stm s::k) .normal σ h=vc T s (todo T K E k) E σ h:=rfl
theorem rD {s:dA} {k:List Item}:todo T K E (.stm s::k) .ret σ h=todo T K E k .ret σ h:=rfl
theorem pF {s:dA} {i:Nat} {k:List Item}:todo T K E (.stm s::k) (.exit i) σ h=todo T K E k (.exit i) σ h:=rfl
theorem EV {id:Nat} {k:List Item}:todo T K E (.blk id::k) .normal σ h=todo T K E k .normal σ h:=rfl
theorem rB {id:Nat} {k:List Item}:todo T K E (.blk id::k) .ret σ h=todo T K E k .ret σ h:=rfl
theorem pE {id i:Nat} {k:List Item}:todo T K E (.blk id::k) (.exit i) σ h=if i=id then todo T K E k .normal σ h else todo T K E k (.exit i) σ h:=rfl
theorem Kg {Q:Fr→aa→Prop} {k:List Item}:todo T K E (.lp Q::k) .normal σ h=Q σ h:=rfl
theorem ug {Q:Fr→aa→Prop} {k:List Item}:todo T K E (.lp Q::k) .ret σ h=todo T K E k .ret σ h:=rfl
theorem rC {Q:Fr→aa→Prop} {i:Nat} {k:List Item}:todo T K E (.lp Q::k) (.exit i) σ h=todo T K E k (.exit i) σ h:=rfl
theorem EW {e:Ex}:todo T K E [] e σ h=K e σ h:=rfl
def VB (T:bf) (os:List dY) (K:Fr→aa→Prop) (E:Fr→D→aa→Prop) (d:Option Nat) (σ:Fr) (x:D) (h:aa):Prop:=eU T os K E (σ.put d x) h
def ask:Option D→(D→aa→Prop)→aa→Prop
 | some x,K,h=>K x h
 | none,_,_=>False
def uj:Option aa→(D→aa→Prop)→Prop
 | some h,K=>K .undef h
 | none,_=>False
theorem uX {x:D} {K:D→aa→Prop}:ask (some x) K h=K x h:=rfl
theorem BZ {K:D→aa→Prop}:ask none K h=False:=rfl
theorem Ax {c:Prop} [Decidable c] {o:Option D} {K:D→aa→Prop}:ask (if c then o else none) K h=(c∧ask o K h):=by
 split<;>simp_all [ask]
theorem xW {K:D→aa→Prop}:uj (some h) K=K .undef h:=rfl
theorem xV {K:D→aa→Prop}:uj none K=False:=rfl
theorem BX {c:Prop} [Decidable c] {o:Option aa} {K:D→aa→Prop}:uj (if c then o else none) K=(c∧uj o K):=by
 split<;>simp_all [uj]
theorem jC {o:Option D} {K:D→aa→Prop}:(∃d,o=some d∧K d h)=ask o K h:=by
 cases o<;>simp [ask]
theorem ux {o:Option aa} {K:D→aa→Prop}:(∃h',o=some h'∧K .undef h')=uj o K:=by
 cases o<;>simp [uj]
section
variable {os:List dY} {K:Fr→aa→Prop} {d:Option Nat} {x:D}
theorem C6:VB T os K E d σ x h=eU T os K E (σ.put d x) h:=rfl
theorem YM {i:bG fS}:eU T (⟨i,d,none,true⟩::os) K E σ h=ask (dI (i.map σ.ev)) (VB T os K E d σ) h:=by
 rw [←jC]; rfl
theorem YL {i:bG fS}:eU T (⟨i,d,none,false⟩::os) K E σ h=dS T (i.map σ.ev) h (VB T os K E d σ) (E σ):=rfl
def guard (T:bf) (i:bG fS) (d:Option Nat) (t:Nat) (want p:Bool) (os:List dY) (K:Fr→aa→Prop) (E:Fr→D→aa→Prop) (σ:Fr) (h:aa):D→Prop
 | .bool b=>(b=want→eU T (⟨i,d,none,p⟩::os) K E (σ.put (some t) (.bool want)) h)∧(b= !want→eU T os K E ((σ.put (some t) (.bool (!want))).put d (.tuple [])) h)
 | .tuple []=>eU T os K E (σ.put d (.tuple [])) h
 | _=>False
theorem YK {i:bG fS} {t:Nat} {want p:Bool}:eU T (⟨i,d,some (t,want),p⟩::os) K E σ h=guard T i d t want p os K E σ h (σ.env t):=by
 simp only [eU,Tu]
 cases e:σ.env t with
 | bool b=>
  simp only [guard]
  congr 1
  apply propext
  constructor
  ·intro h1 hb; subst hb; rw [Fr.kh e] at h1 ⊢; exact h1 rfl
  ·intro h1 hb; subst hb; rw [Fr.kh e] at h1 ⊢; exact h1 rfl
 | tuple ds=>cases ds<;>rfl
 | _=>rfl
theorem Re {i:bG fS} {t:Nat} {p b:Bool}:guard T i d t true p os K E σ h (.bool b)=((b=true→eU T (⟨i,d,none,p⟩::os) K E (σ.put (some t) (.bool true)) h)∧(b=false→eU T os K E ((σ.put (some t) (.bool false)).put d (.tuple [])) h)):=rfl
theorem Rd {i:bG fS} {t:Nat} {p b:Bool}:guard T i d t false p os K E σ h (.bool b)=((b=false→eU T (⟨i,d,none,p⟩::os) K E (σ.put (some t) (.bool false)) h)∧(b=true→eU T os K E ((σ.put (some t) (.bool true)).put d (.tuple [])) h)):=rfl
theorem CL {i:bG fS} {t:Nat} {want p:Bool}:guard T i d t want p os K E σ h (.tuple [])=eU T os K E (σ.put d (.tuple [])) h:=rfl
end
theorem UB {x:D}:dI (.cg x)=some x:=rfl
theorem Qv {c:Bool} {a b:D}:dI (.pick (.bool c) a b)=some (bif c then a else b):=rfl
theorem Kp {zs:List D} {ps:List (Nat×Nat×D)}:dI (.build zs ps)=(g_ zs ps).map .agg:=rfl
theorem aax {sz len:Nat} {zs:List D} {ps:List (Nat×D)}:dI (.buildSlice sz zs len ps false)=(d_ sz (rowsOf sz zs len) ps).map fun xs=>.sl (pr zs xs):=rfl
theorem Fc {a b c:Nat}:dI (.nilCheck (.ptr a b c))=some (.ptr a b c):=rfl
theorem Ac {a:List D} {c:Nat}:dI (.nilCheck (.cU a c))=some (.cU a c):=rfl
theorem Ae {a b c d:Nat}:dI (.nilCheck (.eC a b c d))=some (.eC a b c d):=rfl
theorem Ad {k:FuncId} {a b:List D}:dI (.nilCheck (.func (.func k) a b))=some (.func (.func k) a b):=rfl
theorem Ux {op:BinOp} {x y:D}:dI (.bin op x y)=jJ op x y:=rfl
theorem Uy {t:ET} {neg:Bool} {x y:D}:dI (.eql t neg x y)=(iE t x y).map fun b=>.bool (if neg then !b else b):=rfl
theorem aay {op:UnOp} {x:D}:dI (.un op x)=lX op x:=rfl
theorem E9 {k k':IntKind} {n:Int}:dI (.conv (.nw k) (.int k' n))=some (.int k (k.wrap n)):=rfl
theorem xa {k':IntKind} {n:Int}:dI (.conv .qD (.int k' n))=some (.float .f64 (FloatKind.f64.nearest n)):=rfl
theorem Qw {s:List UInt8}:dI (.conv .same (.str s))=some (.str s):=rfl
theorem xc {s:List UInt8}:dI (.conv .jy (.str s))=some (.sl (eF s)):=rfl
theorem Ks {k:SK} {x:D} {lo hi mx:Option D}:dI (.slice k x lo hi mx)=ij k x lo hi mx:=rfl
theorem E5 {o a b c:Nat}:dI (.fieldAddr o (.ptr a b c))=some (.ptr a b (c+o)):=rfl
theorem z7 {o c:Nat} {a:List D}:dI (.fieldAddr o (.cU a c))=some (.cU a (c+o)):=rfl
theorem z8 {o a b c d:Nat}:dI (.fieldAddr o (.eC a b c d))=some (.eC a b c (d+o)):=rfl
theorem Kq {o:Nat} {n:Option Nat} {ds:List D}:dI (.field o n (.agg ds))=gn ds o n:=rfl
theorem E6 {len sz a b c:Nat} {k:IntKind} {i:Int}:dI (.fB len sz (.ptr a b c) (.int k i))=if 0≤i∧i<len then some (.ptr a b (c+i.toNat*sz)) else none:=rfl
theorem z_ {len sz c:Nat} {a:List D} {k:IntKind} {i:Int}:dI (.fB len sz (.cU a c) (.int k i))=if 0≤i∧i<len then some (.cU a (c+i.toNat*sz)) else none:=rfl
theorem Aa {len sz a b c d:Nat} {k:IntKind} {i:Int}:dI (.fB len sz (.eC a b c d) (.int k i))=if 0≤i∧i<len then some (.eC a b c (d+i.toNat*sz)) else none:=rfl
theorem E7 {len sz:Nat} {n:Option Nat} {ds:List D} {k:IntKind} {i:Int}:dI (.r8 len sz n (.agg ds) (.int k i))=if 0≤i∧i<len then gn ds (i.toNat*sz) n else none:=rfl
theorem E8 {s:List UInt8} {k:IntKind} {i:Int}:dI (.hU (.str s) (.int k i))=if 0≤i∧i<s.length then some (.int .u8 ((s.getD i.toNat 0).toNat:Int)) else none:=KY s k i
theorem Fa {s:List UInt8} {k:IntKind} {i:Int}:dI (.aY 1 (.sl (eF s)) (.int k i))=if 0≤i∧i<s.length then some (.cU [.int .u8 ((s.getD i.toNat 0).toNat:Int)] 0) else none:=by
 show bh (.aY 1 (.sl (eF s)) (.int k i))=_
 rw [xG,nC]
 by_cases h:0≤i∧i<s.length
 ·rw [if_pos h,K5 s _ (by omega),if_pos ⟨h,rfl⟩]
 ·rw [if_neg h,if_neg (fun x=>h x.1)]
theorem E_ {id off len:Nat} {k:IntKind} {i:Int}:dI (.aY 1 (.rL id off len) (.int k i))=if 0≤i∧i<len∧(1:Nat)=1 then some (.ptr id 1 (off+i.toNat)) else none:=rfl
theorem zZ {ds:List D} {i:Nat}:dI (.extract (.tuple ds) i)=ds[i]? :=rfl
theorem Ab {t:TypeId} {x:D}:dI (.l_ t x)=some (.iface t x):=rfl
theorem Fb {fn:Fn} {a b:List D}:dI (.mkFunc fn a b)=some (.func fn a b):=rfl
theorem Uz {k k':IntKind} {a b:Int}:dI (.nG true (.int k a) (.int k' b))=some (.int k (if a<b then b else a)):=rfl
theorem UA {k k':IntKind} {a b:Int}:dI (.nG false (.int k a) (.int k' b))=some (.int k (if b<a then b else a)):=rfl
theorem Qu {k:LK} {x:D}:dI (.pR k x)=mP k x:=rfl
section
variable {K E:D→aa→Prop}
theorem Hy {ds:List D}:dS T (.alloc ds) h K E=∀id,h.f id=none→K (.ptr id 1 0) (h.set id (.cells ds)):=rfl
theorem Tp {x:D}:dS T (.box x) h K E=((cellsD x).all bY=true∧∀id,h.f id=none→K (.ptr id 1 0) (h.set id (.cells (cellsD x)))):=rfl
theorem Yu {sz len:Nat} {zs:List D} {ps:List (Nat×D)}:dS T (.buildSlice sz zs len ps true) h K E=∃xs,d_ sz (rowsOf sz zs len) ps=some xs∧∀id,h.f id=none→K (.row id (len+2) 0 len) (h.set id (.row sz (len+2) xs false)):=rfl
theorem NI {n:Option Nat} {x:D}:dS T (.load n x) h K E=ask (eA h n x) K h:=by rw [←jC]; rfl
theorem CY {n:Option Nat} {x b:D}:dS T (.cK n x b) h K E=ask (if dZ x b=true then eA h n x else none) K h:=by rw [←jC]; rfl
theorem CV {k:FuncId} {first cap args ys:List D}:dS T (.callNe (.func (.func k) first cap) args ys) h K E=T.c k ((first++args++cap).map (plain h)) (eV h (first++args++cap)) (fun d h'=>(∀y∈ys,fQ h h' y)∧K d h') E:=rfl
theorem Hz {k:FuncId}:dS T (.lG k) h K E=∃ds,T.a k=some ds∧∀id,h.f id=none→K (.ptr id 1 0) (h.set id (.cells ds)):=rfl
theorem HC {n:Nat} {x v:D}:dS T (.store n x v) h K E=uj (fj h n x v) K:=by rw [←ux]; rfl
theorem yN {n:Nat} {x v:D} {ys:List D}:dS T (.storeNe n x v ys) h K E=(ys.all (fZ x)=true∧uj (fj h n x v) K):=by rw [←ux]; rfl
theorem l6 {x:D}:dS T (.conv .dM x) h K E=ask (cC h (.conv .dM x)) K h:=by rw [←jC]; rfl
theorem s3 {k:SK} {r aP off len:Nat} {lo hi mx:Option D}:dS T (.slice k (.row r aP off len) lo hi mx) h K E=ask (cC h (.slice k (.row r aP off len) lo hi mx)) K h:=by rw [←jC]; rfl
theorem s4 {k:SK} {s:List UInt8} {lo hi mx:Option D}:dS T (.slice k (.str s) lo hi mx) h K E=ask (ij k (.str s) lo hi mx) K h:=by rw [←jC]; rfl
theorem vL {k:SK} {s:List (List D)} {lo hi mx:Option D}:dS T (.slice k (.sl s) lo hi mx) h K E=ask (ij k (.sl s) lo hi mx) K h:=by rw [←jC]; rfl
theorem sZ {k:SK} {a b c:Nat} {lo hi mx:Option D}:dS T (.slice k (.ptr a b c) lo hi mx) h K E=ask (ij k (.ptr a b c) lo hi mx) K h:=by rw [←jC]; rfl
theorem sX {sz r aP off len:Nat} {i:D}:dS T (.aY sz (.row r aP off len) i) h K E=ask (cC h (.aY sz (.row r aP off len) i)) K h:=by rw [←jC]; rfl
theorem F3 {sz:Nat} {xs:List (List D)} {i:D}:dS T (.aY sz (.sl xs) i) h K E=ask (bh (.aY sz (.sl xs) i)) K h:=by rw [←jC]; rfl
def iC (sz:Nat) (K:D→aa→Prop) (h:aa) (xs:List (List D)) (i:Int):Prop:=(0≤i∧i<xs.length)∧∀x,xs[i.toNat]? =some x→x.length=sz∧K (.cU x 0) h
theorem sV {sz:Nat} {xs:List (List D)} {k:IntKind} {i:Int}:dS T (.aY sz (.sl xs) (.int k i)) h K E=iC sz K h xs i:=by
 rw [F3]
 simp only [bh,iC]
 by_cases h0:0≤i
 ·rw [if_pos h0]
  cases e:xs[i.toNat]? with
  | none=>
   have:¬i<(xs.length:Int):=by have:=List.getElem?_eq_none_iff.1 e; omega
   simp [ask,this]
  | some x=>
   have:i.toNat<xs.length:=(List.getElem?_eq_some_iff.1 e).1
   have h2:i<(xs.length:Int):=by omega
   simp only [Ax,uX,h0,h2,and_self,true_and,Option.some.injEq,forall_eq']
 ·simp [h0,ask]
theorem BW {s:List UInt8} {i:Int}:iC 1 K h (eF s) i=((0≤i∧i<s.length)∧K (.cU [.int .u8 ((s.getD i.toNat 0).toNat:Int)] 0) h):=by
 simp only [iC,nC]
 by_cases h0:0≤i∧i<s.length
 ·rw [Q_ s _ (by omega)]
  simp [h0]
 ·simp [h0]
theorem lE {α:Type} {sz:Nat} {f:α→List D} {l:List α} {i:Int} (hf:∀x,(f x).length=sz):iC sz K h (l.map f) i=((0≤i∧i<l.length)∧∀x,l[i.toNat]? =some x→K (.cU (f x) 0) h):=by
 simp only [iC,List.length_map,List.getElem?_map,Option.map_eq_some_iff]
 congr 1
 apply propext
 constructor
 ·intro q x hx; exact (q (f x) ⟨x,hx,rfl⟩).2
 ·rintro q _ ⟨x,hx,rfl⟩; exact ⟨hf x,q x hx⟩
theorem sW {sz id off len:Nat} {i:D}:dS T (.aY sz (.rL id off len) i) h K E=ask (bh (.aY sz (.rL id off len) i)) K h:=by rw [←jC]; rfl
theorem yM {s:List UInt8}:dS T (.len .str (.str s)) h K E=(s.length≤9223372036854775807→K (.int .i64 (s.length:Int)) h):=rfl
theorem yJ {n:Nat} {x:D}:dS T (.len (.arr n) x) h K E=K (.int .i64 (n:Int)) h:=rfl
theorem r7:dS T (.len .sl .a_) h K E=K (.int .i64 0) h:=rfl
theorem CX {xs:List (List D)}:dS T (.len .sl (.sl xs)) h K E=(xs.length≤9223372036854775807→K (.int .i64 (xs.length:Int)) h):=rfl
theorem yL {r aP off len:Nat}:dS T (.len .sl (.row r aP off len)) h K E=(len≤9223372036854775807→K (.int .i64 (len:Int)) h):=rfl
theorem yK {id off len:Nat}:dS T (.len .sl (.rL id off len)) h K E=(len≤9223372036854775807→K (.int .i64 (len:Int)) h):=rfl
theorem sY {sz b:Nat} {zs:List D} {k k':IntKind} {l c:Int}:dS T (.makeSlice sz b zs (.int k l) (.int k' c)) h K E=(0≤l∧l=c∧l*b≤140737488355328∧zs.length=sz∧0<sz∧∀id,h.f id=none→K (.row id (l.toNat+2) 0 l.toNat) (h.set id (.row sz (l.toNat+2) (rowsOf sz zs l.toNat) false))):=rfl
theorem NH {k:FuncId} {first cap args:List D}:dS T (.call (.func (.func k) first cap) args) h K E=T.c k ((first++args++cap).map (plain h)) (eV h (first++args++cap)) K E:=rfl
theorem HA {k:FuncId} {first cap args:List D}:dS T (.qcall (.func (.func k) first cap) args) h K E=ask (T.q k ((first++args++cap).map (plain h))) (fun d h'=>K d (fe d h h')) (eV h (first++args++cap)):=by rw [←jC]; rfl
theorem yY {b:Bool} {h h':aa}:fe (.bool b) h h'=h:=rfl
theorem Da {k:IntKind} {n:Int} {h h':aa}:fe (.int k n) h h'=h:=rfl
theorem vM {k:FloatKind} {n:Nat} {h h':aa}:fe (.float k n) h h'=h:=rfl
theorem Db {s:List UInt8} {h h':aa}:fe (.str s) h h'=h:=rfl
theorem C_ {ds:List D} {h h':aa}:fe (.agg ds) h h'=h':=rfl
theorem vP {ds:List D} {h h':aa}:fe (.tuple ds) h h'=h':=rfl
theorem HI {xs:List (List D)} {h h':aa}:fe (.sl xs) h h'=h':=rfl
theorem yZ {f:Fn} {a b:List D} {h h':aa}:fe (.func f a b) h h'=h':=rfl
theorem vN {t:TypeId} {d:D} {h h':aa}:fe (.iface t d) h h'=h':=rfl
theorem vO {h h':aa}:fe .fL h h'=h':=rfl
theorem y7 {d:D} {h:aa}:fe d h h=h:=by cases d<;>rfl
theorem A2 {t:TypeId} {d:D}:dS T (.panic (.iface t d)) h K E=E (.iface t d) h:=rfl
def Fz (sz bytes:Nat) (s:D) (h:aa) (K:D→aa→Prop):Option (List (List D))→Prop
 | none=>False
 | some ys=>(∀y∈ys,y.length=sz∧y.all bY=true)∧0<bytes∧
   (match s with
    | .a_=>(ys=[]→K .a_ h)∧ys.length*bytes≤140737488355328∧(ys≠[]→∀id,h.f id=none→K (.row id (ys.length+2) 0 ys.length) (h.set id (.row sz (ys.length+2) ys false)))
    | .row r aP off len=>match h.f r with
     | some (.row gM bR xs false)=>aP=bR∧gM=sz∧off=0∧len=xs.length∧(xs.length+ys.length)*bytes≤140737488355328∧
       K (.row r (aP+ys.length) 0 (len+ys.length)) (h.set r (.row sz (aP+ys.length) (xs++ys) false))
     | _=>False
    | _=>False)
theorem CU {sz b:Nat} {str:Bool} {s x:D}:dS T (.append sz b str s x) h K E=Fz sz b s h K (pC h str x):=by
 simp only [dS]
 generalize pC h str x=o
 cases o with
 | none=>simp [Fz]
 | some ys=>simp only [Option.some.injEq,exists_eq_left',Fz]; rfl
theorem zU {b:List UInt8}:pC h true (.str b)=some (eF b):=rfl
theorem D_ {x:D}:pC h false x=cG h x:=rfl
theorem At {sz b:Nat} {ys:List (List D)}:Fz sz b .a_ h K (some ys)=((∀y∈ys,y.length=sz∧y.all bY=true)∧0<b∧(ys=[]→K .a_ h)∧ys.length*b≤140737488355328∧(ys≠[]→∀id,h.f id=none→K (.row id (ys.length+2) 0 ys.length) (h.set id (.row sz (ys.length+2) ys false)))):=rfl
def Xw (sz b r aP off len:Nat) (ys:List (List D)) (h:aa) (K:D→aa→Prop):Option cI→Prop
 | some (.row gM bR xs false)=>aP=bR∧gM=sz∧off=0∧len=xs.length∧(xs.length+ys.length)*b≤140737488355328∧
       K (.row r (aP+ys.length) 0 (len+ys.length)) (h.set r (.row sz (aP+ys.length) (xs++ys) false))
 | _=>False
theorem Au {sz b r aP off len:Nat} {ys:List (List D)}:Fz sz b (.row r aP off len) h K (some ys)=((∀y∈ys,y.length=sz∧y.all bY=true)∧0<b∧Xw sz b r aP off len ys h K (h.f r)):=by
 simp only [Fz]
 congr 2
theorem uT {sz b r aP off len gM bR:Nat} {ys xs:List (List D)}:Xw sz b r aP off len ys h K (some (.row gM bR xs false))=(aP=bR∧gM=sz∧off=0∧len=xs.length∧(xs.length+ys.length)*b≤140737488355328∧
       K (.row r (aP+ys.length) 0 (len+ys.length)) (h.set r (.row sz (aP+ys.length) (xs++ys) false))):=rfl
def xS (sz bytes:Nat) (s:D) (h:aa) (K:D→aa→Prop):Option (List (List D))→Prop
 | none=>False
 | some ys=>(∀y∈ys,y.length=sz∧y.all bY=true)∧0<bytes∧
   (match s with
    | .a_=>ys≠[]∧ys.length*bytes≤140737488355328∧∀id,h.f id=none→K (.row id 2 0 ys.length) (h.set id (.fW sz 2 ys []))
    | .row r aP off len=>match h.f r with
     | some (.fW gM bR xs fU)=>ys≠[]∧aP=bR∧gM=sz∧off=0∧len=xs.length∧(xs.length+ys.length)*bytes≤140737488355328∧
       K (.row r (aP+1) 0 (len+ys.length)) (h.set r (.fW sz (aP+1) (xs++ys) ((aP,len)::fU)))
     | some (.row gM bR xs false)=>aP=bR∧gM=sz∧off=0∧len=xs.length∧(xs.length+ys.length)*bytes≤140737488355328∧
       K (.row r (aP+ys.length) 0 (len+ys.length)) (h.set r (.row sz (aP+ys.length) (xs++ys) false))
     | _=>False
    | _=>False)
theorem yI {sz b:Nat} {str:Bool} {s x:D} {zs:List D}:dS T (.appendA sz b str s x zs) h K E=(zs.all (cellAt h)=true∧xS sz b s h K (pC h str x)):=by
 simp only [dS]
 generalize pC h str x=o
 cases o with
 | none=>simp [xS]
 | some ys=>simp only [Option.some.injEq,exists_eq_left',xS]; rfl
theorem BQ {sz b:Nat} {ys:List (List D)}:xS sz b .a_ h K (some ys)=((∀y∈ys,y.length=sz∧y.all bY=true)∧0<b∧ys≠[]∧ys.length*b≤140737488355328∧∀id,h.f id=none→K (.row id 2 0 ys.length) (h.set id (.fW sz 2 ys []))):=rfl
def Mj (sz b r aP off len:Nat) (ys:List (List D)) (h:aa) (K:D→aa→Prop):Option cI→Prop
 | some (.fW gM bR xs fU)=>ys≠[]∧aP=bR∧gM=sz∧off=0∧len=xs.length∧(xs.length+ys.length)*b≤140737488355328∧
       K (.row r (aP+1) 0 (len+ys.length)) (h.set r (.fW sz (aP+1) (xs++ys) ((aP,len)::fU)))
 | some (.row gM bR xs false)=>aP=bR∧gM=sz∧off=0∧len=xs.length∧(xs.length+ys.length)*b≤140737488355328∧
       K (.row r (aP+ys.length) 0 (len+ys.length)) (h.set r (.row sz (aP+ys.length) (xs++ys) false))
 | _=>False
theorem BR {sz b r aP off len:Nat} {ys:List (List D)}:xS sz b (.row r aP off len) h K (some ys)=((∀y∈ys,y.length=sz∧y.all bY=true)∧0<b∧Mj sz b r aP off len ys h K (h.f r)):=by
 simp only [xS]
 congr 2
theorem xU {sz b r aP off len gM bR:Nat} {ys xs:List (List D)} {fU:List (Nat×Nat)}:Mj sz b r aP off len ys h K (some (.fW gM bR xs fU))=(ys≠[]∧aP=bR∧gM=sz∧off=0∧len=xs.length∧(xs.length+ys.length)*b≤140737488355328∧
       K (.row r (aP+1) 0 (len+ys.length)) (h.set r (.fW sz (aP+1) (xs++ys) ((aP,len)::fU)))):=rfl
theorem xT {sz b r aP off len gM bR:Nat} {ys xs:List (List D)}:Mj sz b r aP off len ys h K (some (.row gM bR xs false))=(aP=bR∧gM=sz∧off=0∧len=xs.length∧(xs.length+ys.length)*b≤140737488355328∧
       K (.row r (aP+ys.length) 0 (len+ys.length)) (h.set r (.row sz (aP+ys.length) (xs++ys) false))):=rfl
theorem v_ {ds:List D}:pX h (.agg ds)=plain h (.agg ds):=rfl
theorem Cs {ds:List D}:AP h (.agg ds)=fA h (.agg ds):=rfl
theorem C0 {n:Nat} {x v:D}:dS T (.ik n x v) h K E=uj (fj (AP h v) n x (pX h v)) K:=by rw [←ux]; rfl
def stB (n:Nat) (x:D) (K:D→aa→Prop):Option (D×aa)→Prop
 | some p=>uj (fj p.2 n x p.1) K
 | none=>False
theorem CZ {n:Nat} {x v:D}:dS T (.kq n x v) h K E=stB n x K (MV h v):=by
 simp only [dS]
 generalize MV h v=o
 cases o with
 | none=>rfl
 | some p=>simp only [stB]; rw [←ux]
theorem Ea {n:Nat} {x:D} {p:D×aa}:stB n x K (some p)=uj (fj p.2 n x p.1) K:=rfl
theorem yh (s:List UInt8):(∀y∈eF s,y.length=1∧y.all bY=true)=True:=by simp [eF,bY]
end
def Bt (aP off len:Nat):Option cI→Option D
 | some (.row sz bR xs fz)=>if aP=bR∧off+len≤xs.length then (if ((xs.drop off).take len).all isByte=true then some (.str (((xs.drop off).take len).map byteOf)) else none) else none
 | _=>none
theorem yQ {r aP off len:Nat} {K E:D→aa→Prop}:dS T (.conv .dM (.row r aP off len)) h K E=ask (Bt aP off len (h.f r)) K h:=by
 rw [l6]
 congr 1
 simp only [cC,cG]
 generalize h.f r=o
 cases o with
 | none=>rfl
 | some o=>
  cases o with
  | row sz bR xs fz=>
   simp only [Bt]
   by_cases hc:aP=bR∧off+len≤xs.length
   ·rw [if_pos hc,if_pos hc]
   ·rw [if_neg hc,if_neg hc]
  | _=>rfl
theorem wT {aP off len sz bR:Nat} {s:List UInt8} {fz:Bool}:Bt aP off len (some (.row sz bR (eF s) fz))=if aP=bR∧off+len≤s.length then some (.str ((s.drop off).take len)) else none:=by
 simp only [Bt,vn,vp,uC,uD,nC,if_true]
theorem C1 {s:List UInt8} {K E:D→aa→Prop}:dS T (.conv .dM (.sl (eF s))) h K E=K (.str s) h:=by
 rw [l6]
 simp only [cC,cG,uC,uD,if_true,ask]
theorem yO {K E:D→aa→Prop}:dS T (.conv .dM .a_) h K E=K (.str []) h:=by
 rw [l6]
 simp [cC,cG,ask]
theorem cS {s:dA} {k:List Item} {X:Type} (F:X→List (Nat×D)) (H:X→aa) (μ:X→Nat) (I:X→Prop) (x0:X) (h1:I x0) (h2:Md (F x0) σ) (h3:(H x0).sub h)
  (h4:∀(x:X) (Q:Fr→aa→Prop),I x→(∀x' σ' h',I x'→Md (F x') σ'→(H x').sub h'→μ x'<μ x→Q σ' h')→vc T s (todo T K E (.lp Q::k)) E (Bc (F x)) (H x)):vc T (.loop s) (todo T K E k) E σ h:=by
 refine W4 F H μ I x0 h1 h2 h3 fun x hx=>?_
 refine iu (fun e σ' h' kk=>?_) (fun _ _ _ kk=>kk) (h4 x (fun σ' h'=>∃x',I x'∧Md (F x') σ'∧(H x').sub h'∧μ x'<μ x) hx fun x' σ' h' a b c d=>⟨x',a,b,c,d⟩)
 cases e<;>exact kk
theorem yr {α:Type} {i j:Nat} {x:α} {o:Option α}:((if i=j then some x else o)=none)=(i≠j∧j≠i∧o=none):=by
 by_cases e:i=j
 ·subst e; simp
 ·have:j≠i:=fun x=>e x.symm
  simp [e,this]
theorem Ci {s:List UInt8}:(eF s=[])=(s=[]):=by simp [eF]
theorem qh {c:Prop} [Decidable c] {o:Option D} {K:D→aa→Prop}:ask (if c then none else o) K h=(¬c∧ask o K h):=by
 split<;>simp_all [ask]
def Dt (E:D→aa→Prop):Fr→D→aa→Prop:=fun σ d h=>σ.defs=[]∧E d h
theorem G5 {E:D→aa→Prop} {m:Nat} {env:Nat→D} {d:D} {h:aa}:Ed (Dt E) m [] env d h=E d h:=propext ⟨fun k=>(k ⟨env,[]⟩ rfl fun _ _=>rfl).2,fun k σ e _=>⟨e,k⟩⟩
def Tq (ds:List lg):List (Nat×D)→Fr→Prop
 | [],σ=>σ.defs=ds
 | (j,d)::l,σ=>σ.env j=d∧Tq ds l σ
theorem HG {ds:List lg} {σ:Fr}:Tq ds [] σ=(σ.defs=ds):=rfl
theorem C8 {ds:List lg} {j:Nat} {d:D} {l:List (Nat×D)} {σ:Fr}:Tq ds ((j,d)::l) σ=(σ.env j=d∧Tq ds l σ):=rfl
theorem F8 {ds:List lg}:∀{l:List (Nat×D)} {σ:Fr},Tq ds l σ→(y_ l ds).le σ
 | [],σ,h=>⟨fun _=>.inl rfl,h.symm⟩
 | (j,d)::l,σ,h=>by
  have ih:=F8 h.2
  refine ⟨fun i=>?_,ih.2⟩
  simp only [y_,gK]
  by_cases e:i=j
  ·subst e; rw [if_pos rfl]; exact .inr h.1.symm
  ·rw [if_neg e]; exact ih.1 i
theorem za (l:List (Nat×D)) (ds:List lg) (i:Nat):(y_ l ds).env i=gK l i:=rfl
theorem vT (l:List (Nat×D)) (ds:List lg):(y_ l ds).defs=ds:=rfl
def Oc (T:bf) (K:Ex→Fr→aa→Prop) (E:Fr→D→aa→Prop) (k:List Item) (σ:Fr) (h:aa) (as:List D):D→Prop
 | .func (.func f) first cap=>todo T K E k .normal { σ with defs:=⟨.func f,cap,first++as⟩::σ.defs } h
 | _=>False
theorem zH {k:List Item} {f:fS} {as:List fS}:vc T (.defer f as) (todo T K E k) E σ h=Oc T K E k σ h (as.map σ.ev) (σ.ev f):=by
 show (match σ.ev f with | .func (.func f) first cap=>_ | _=>False)=_
 generalize σ.ev f=d
 cases d with
 | func fn first cap=>cases fn<;>rfl
 | _=>rfl
theorem tm {k:List Item} {f:FuncId} {first cap as:List D}:Oc T K E k σ h as (.func (.func f) first cap)=todo T K E k .normal { σ with defs:=⟨.func f,cap,first++as⟩::σ.defs } h:=rfl
theorem Fr.Cm {σ:Fr} {ds:List lg} {i:Nat}:({ σ with defs:=ds }:Fr).env i=σ.env i:=rfl
theorem Fr.yf {σ:Fr} {ds:List lg}:({ σ with defs:=ds }:Fr).defs=ds:=rfl
theorem sA {s:dA} {k:List Item} {X:Type} (ds:List lg) (F:X→List (Nat×D)) (H:X→aa) (μ:X→Nat) (I:X→Prop) (x0:X) (h1:I x0) (h2:Tq ds (F x0) σ) (h3:(H x0).sub h)
  (h4:∀(x:X) (Q:Fr→aa→Prop),I x→(∀x' σ' h',I x'→Tq ds (F x') σ'→(H x').sub h'→μ x'<μ x→Q σ' h')→vc T s (todo T K E (.lp Q::k)) E (y_ (F x) ds) (H x)):vc T (.loop s) (todo T K E k) E σ h:=by
 refine ⟨X,fun x=>y_ (F x) ds,H,μ,I,x0,h1,F8 h2,h3,fun x hx=>?_⟩
 refine iu (fun e σ' h' kk=>?_) (fun _ _ _ kk=>kk) (h4 x (fun σ' h'=>∃x',I x'∧Tq ds (F x') σ'∧(H x').sub h'∧μ x'<μ x) hx fun x' σ' h' a b c d=>⟨x',a,b,c,d⟩)
 cases e with
 | normal=>obtain ⟨x',a,b,c⟩:=kk; exact ⟨x',a,F8 b,c⟩
 | _=>exact kk
theorem aO.run [aL] {P:Program} (hT:T.ok P) {f:FuncId} {s:dA} {rs:List eB} {m:Nat} {pl:b7} {args:List D} {h:aa} {K:D→aa→Prop} (hs:bE P f pl=some (s,rs,m)) (hn:args.length≤m)
  (hv:∀(E:Fr→D→aa→Prop),vc T s (todo T (Gy rs K) E []) E (fT args) h):aO P f args h fun o h'=>∃d,o=.ret d∧K d h':=
 aO.YH hT hs hn (hv _)
theorem aM.run [aL] {P:Program} (hT:T.ok P) {f:FuncId} {s:dA} {rs:List eB} {m:Nat} {pl:b7} {args:List D} {d:D} (hs:bE P f pl=some (s,rs,m)) (hn:args.length≤m)
  (hv:∀(E:Fr→D→aa→Prop),vc T s (todo T (sw rs fun o _=>o=.ret d) E []) E (fT args) .emp):aM P f args d:=
 aO.me hT hs hn (hv _)
def Zf (rs:List eB) (K:D→aa→Prop) (e:Ex) (σ:Fr) (h:aa):Prop:=
 match e with
 | .exit _=>False
 | _=>σ.defs=[]∧∃ds,dV σ h rs=some ds∧∃h',h'.sub (eV h ds)∧K (w8 (ds.map (plain h))) h'
theorem DS {rs:List eB} {K:D→aa→Prop} {σ:Fr} {h:aa}:Zf rs K .ret σ h=(σ.defs=[]∧∃ds,dV σ h rs=some ds∧∃h',h'.sub (eV h ds)∧K (w8 (ds.map (plain h))) h'):=rfl
theorem tr {rs:List eB} {K:D→aa→Prop} {σ:Fr} {h:aa}:Zf rs K .normal σ h=(σ.defs=[]∧∃ds,dV σ h rs=some ds∧∃h',h'.sub (eV h ds)∧K (w8 (ds.map (plain h))) h'):=rfl
theorem tl:plain h (.undef)=.undef:=rfl
theorem yC:fA h (.undef)=h:=rfl
theorem wc {b:Bool}:plain h (.bool b)=.bool b:=rfl
theorem Cv {b:Bool}:fA h (.bool b)=h:=rfl
theorem zu {k:IntKind} {n:Int}:plain h (.int k n)=.int k n:=rfl
theorem Ho {k:IntKind} {n:Int}:fA h (.int k n)=h:=rfl
theorem tf {k:FloatKind} {n:Nat}:plain h (.float k n)=.float k n:=rfl
theorem yw {k:FloatKind} {n:Nat}:fA h (.float k n)=h:=rfl
theorem zC {s:List UInt8}:plain h (.str s)=.str s:=rfl
theorem Hs {s:List UInt8}:fA h (.str s)=h:=rfl
theorem qP:plain h (.fY)=.fY:=rfl
theorem vA:fA h (.fY)=h:=rfl
theorem zy {a b c:Nat}:plain h (.ptr a b c)=.ptr a b c:=rfl
theorem Hq {a b c:Nat}:fA h (.ptr a b c)=h:=rfl
theorem we {a:List D} {b:Nat}:plain h (.cU a b)=.cU a b:=rfl
theorem Cw {a:List D} {b:Nat}:fA h (.cU a b)=h:=rfl
theorem wh {a b c d:Nat}:plain h (.eC a b c d)=.eC a b c d:=rfl
theorem Cy {a b c d:Nat}:fA h (.eC a b c d)=h:=rfl
theorem DC {xs:List (List D)}:plain h (.sl xs)=.sl xs:=rfl
theorem Ng {xs:List (List D)}:fA h (.sl xs)=h:=rfl
theorem zr {a b c:Nat}:plain h (.rL a b c)=.rL a b c:=rfl
theorem Hn {a b c:Nat}:fA h (.rL a b c)=h:=rfl
theorem tj {ds:List D}:plain h (.tuple ds)=.tuple ds:=rfl
theorem yB {ds:List D}:fA h (.tuple ds)=h:=rfl
theorem wg {fn:Fn} {a b:List D}:plain h (.func fn a b)=.func fn a b:=rfl
theorem Cx {fn:Fn} {a b:List D}:fA h (.func fn a b)=h:=rfl
theorem py:plain h (.eK)=.eK:=rfl
theorem sP:fA h (.eK)=h:=rfl
theorem tg {t:TypeId} {d:D}:plain h (.iface t d)=.iface t d:=rfl
theorem yy {t:TypeId} {d:D}:fA h (.iface t d)=h:=rfl
theorem th:plain h (.fL)=.fL:=rfl
theorem yz:fA h (.fL)=h:=rfl
theorem zw {a:Nat}:plain h (.map a)=.map a:=rfl
theorem Hp {a:Nat}:fA h (.map a)=h:=rfl
theorem qO:plain h (.iS)=.iS:=rfl
theorem vz:fA h (.iS)=h:=rfl
theorem ti:plain h .a_=.sl []:=rfl
theorem yA:fA h .a_=h:=rfl
def plR (aP off len:Nat):Option cI→D
 | some (.row sz bR xs fz)=>if aP=bR∧off+len≤xs.length then .sl ((xs.drop off).take len) else .undef
 | _=>.undef
theorem zB {r aP off len:Nat}:plain h (.row r aP off len)=plR aP off len (h.f r):=by
 simp only [plain]
 generalize h.f r=o
 cases o with
 | none=>rfl
 | some o=>cases o<;>rfl
theorem HX {aP off len sz bR:Nat} {xs:List (List D)} {fz:Bool}:plR aP off len (some (.row sz bR xs fz))=if aP=bR∧off+len≤xs.length then .sl ((xs.drop off).take len) else .undef:=rfl
def XW (h:aa) (r:Nat):Option cI→aa
 | some (.row sz aP xs _)=>h.set r (.row sz aP xs true)
 | _=>h
theorem Hr {r aP off len:Nat}:fA h (.row r aP off len)=XW h r (h.f r):=by
 show ee h r=_
 unfold ee
 cases e:h.f r with
 | none=>rfl
 | some o=>cases o<;>rfl
theorem Cu {r sz aP:Nat} {xs:List (List D)} {fz:Bool}:XW h r (some (.row sz aP xs fz))=h.set r (.row sz aP xs true):=rfl
theorem Ct:eV h []=h:=rfl
theorem yu {d:D} {ds:List D}:eV h (d::ds)=eV (fA h d) ds:=rfl
def xN (h:aa):D→D
 | .a_=>.sl []
 | .row r aP off len=>plR aP off len (h.f r)
 | d=>d
theorem wb {ds:List D}:plain h (.agg ds)=.agg (ds.map (xN h)):=by
 rw [j4]
 congr 1
theorem zo:xN h .a_=.sl []:=rfl
theorem HV {r aP off len:Nat}:xN h (.row r aP off len)=plR aP off len (h.f r):=rfl
theorem zq:xN h (.undef)=.undef:=rfl
theorem Dy {b:Bool}:xN h (.bool b)=.bool b:=rfl
theorem HS {k:IntKind} {n:Int}:xN h (.int k n)=.int k n:=rfl
theorem zi {k:FloatKind} {n:Nat}:xN h (.float k n)=.float k n:=rfl
theorem HW {s:List UInt8}:xN h (.str s)=.str s:=rfl
theorem v8:xN h (.fY)=.fY:=rfl
theorem HU {a b c:Nat}:xN h (.ptr a b c)=.ptr a b c:=rfl
theorem Dz {a:List D} {b:Nat}:xN h (.cU a b)=.cU a b:=rfl
theorem DB {a b c d:Nat}:xN h (.eC a b c d)=.eC a b c d:=rfl
theorem Ob {xs:List (List D)}:xN h (.sl xs)=.sl xs:=rfl
theorem HR {a b c:Nat}:xN h (.rL a b c)=.rL a b c:=rfl
theorem zp {ds:List D}:xN h (.tuple ds)=.tuple ds:=rfl
theorem DA {fn:Fn} {a b:List D}:xN h (.func fn a b)=.func fn a b:=rfl
theorem tc:xN h (.eK)=.eK:=rfl
theorem zj {t:TypeId} {d:D}:xN h (.iface t d)=.iface t d:=rfl
theorem zn:xN h (.fL)=.fL:=rfl
theorem HT {a:Nat}:xN h (.map a)=.map a:=rfl
theorem v7:xN h (.iS)=.iS:=rfl
def aa.GI (S:List Nat) (h h':aa):Prop:=∀j o,j ∉ S→h.f j=some o→h'.f j=some o
theorem aa.dL {h h':aa} (s:aa.GI [] h h'):h.sub h':=fun j o e=>s j o (by simp) e
theorem aa.bF {S:List Nat} {h:aa}:aa.GI S h h:=fun _ _ _ e=>e
theorem aa.cL {S:List Nat} {i:Nat} {o:cI} {h h':aa} (e:h'.f i=some o) (s:aa.GI (i::S) h h'):aa.GI S (h.set i o) h':=fun j p hj hp=>by
 simp only [aa.dD] at hp
 split at hp
 ·rename_i e1; cases hp; rw [e1]; exact e
 ·rename_i e1; exact s j p (by simp [e1,hj]) hp
theorem aa.cR {S:List Nat} {i:Nat} {o:cI} {h h':aa} (hi:i∈S∨h.f i=none) (s:aa.GI S h h'):aa.GI S h (h'.set i o):=fun j p hj hp=>by
 have:j≠i:=fun e=>by
  subst e
  rcases hi with hi | hi
  ·exact hj hi
  ·rw [hi] at hp; cases hp
 simp only [aa.dD,if_neg this]
 exact s j p hj hp
theorem aa.bI {S:List Nat} {h:aa}:aa.GI S .emp h:=fun _ _ _ e=>by cases e
theorem CC:fA h (.agg [])=h:=rfl
theorem CE {r v o l:Nat} {ds:List D}:fA h (.agg (.row r v o l::ds))=fA (fA h (.row r v o l)) (.agg ds):=rfl
theorem vF {ds:List D}:fA h (.agg (.undef::ds))=fA h (.agg ds):=rfl
theorem yD {b:Bool} {ds:List D}:fA h (.agg (.bool b::ds))=fA h (.agg ds):=rfl
theorem CA {k:IntKind} {n:Int} {ds:List D}:fA h (.agg (.int k n::ds))=fA h (.agg ds):=rfl
theorem vB {k:FloatKind} {n:Nat} {ds:List D}:fA h (.agg (.float k n::ds))=fA h (.agg ds):=rfl
theorem CF {s:List UInt8} {ds:List D}:fA h (.agg (.str s::ds))=fA h (.agg ds):=rfl
theorem sR {ds:List D}:fA h (.agg (.fY::ds))=fA h (.agg ds):=rfl
theorem CD {a b c:Nat} {ds:List D}:fA h (.agg (.ptr a b c::ds))=fA h (.agg ds):=rfl
theorem yE {a:List D} {b:Nat} {ds:List D}:fA h (.agg (.cU a b::ds))=fA h (.agg ds):=rfl
theorem yG {a b c d:Nat} {ds:List D}:fA h (.agg (.eC a b c d::ds))=fA h (.agg ds):=rfl
theorem vE {ds:List D}:fA h (.agg (.a_::ds))=fA h (.agg ds):=rfl
theorem Ht {xs:List (List D)} {ds:List D}:fA h (.agg (.sl xs::ds))=fA h (.agg ds):=rfl
theorem Cz {a b c:Nat} {ds:List D}:fA h (.agg (.rL a b c::ds))=fA h (.agg ds):=rfl
theorem yF {fn:Fn} {a b:List D} {ds:List D}:fA h (.agg (.func fn a b::ds))=fA h (.agg ds):=rfl
theorem qy {ds:List D}:fA h (.agg (.eK::ds))=fA h (.agg ds):=rfl
theorem vC {t:TypeId} {d:D} {ds:List D}:fA h (.agg (.iface t d::ds))=fA h (.agg ds):=rfl
theorem vD {ds:List D}:fA h (.agg (.fL::ds))=fA h (.agg ds):=rfl
theorem CB {a:Nat} {ds:List D}:fA h (.agg (.map a::ds))=fA h (.agg ds):=rfl
theorem sQ {ds:List D}:fA h (.agg (.iS::ds))=fA h (.agg ds):=rfl
theorem yP {x:Int} {K E:D→aa→Prop}:dS T (.conv .dM (.sl [[.int .u8 x]])) h K E=K (.str [UInt8.ofNat x.toNat]) h:=by
 rw [l6]
 simp [cC,cG,isByte,byteOf,ask]
end Go.Proofs.YtpklkpkfgmoghaaGreatDoor.Zz
namespace Go.Proofs.YtpklkpkfgmoghaaGreatDoor.Zz
open Go.RowKit
def fU (w:World):b9:={ gC:=fun b=>b<w.heap.size,loc:=fun _=>none }
theorem RL [aL] (w:World) (hg:gh (fU w) w):Inv (fU w) .emp w:=
 ⟨fun b h=>h,fun i p h=>(by cases h),⟨0,fun _ _=>rfl⟩,fun i o h=>(by cases h),fun i j oi oj pi pj b h=>(by cases h),hg⟩
theorem VC [aL] {P:Program} {f:FuncId} {args:List D} (c:aM P f args (.bool true)) {vs:Array Value} {w:World} (hg:gh (fU w) w) (hr:bJ (fU w) w vs.toList args):
  Calls P f vs w fun e w'=>e=.returned (.bool true)∧Below w.heap.size w w':=
 (c.2 (fU w) w vs (RL w hg) hr).mono fun e w' ⟨o,h',κ',e1,r,i,ev⟩=>by
  subst e1
  cases r with
  | ret r=>
   cases r
   refine ⟨rfl,ev.os,ev.tape,ev.output,ev.size,fun k hk=>ev.blocks k hk fun ho=>?_⟩
   obtain ⟨id,o,p,h,_⟩:=ho
   simp at h
theorem Gw {κ:b9} {w:World} {s:ByteArray} (h:s.size≤maxLen):bX κ w (.string s) (.str s.data.toList):=by
 have:=bX.str (κ:=κ) (w:=w) s.data.toList (by
  have:s.data.toList.length=s.size:=by simp
  rw [this]
  have h2:maxLen≤9223372036854775807:=by decide
  omega)
 simpa using this
theorem Hd {w:World} {b o:Nat} {v:Value} (h:w.cell? ⟨b,o,none⟩=some v):b<w.heap.size:=by
 simp only [World.cell?] at h
 cases e:w.heap[b]? with
 | none=>simp [e] at h
 | some x=>exact (Array.getElem?_eq_some_iff.1 e).1
theorem wC {w:World} {a:Addr} {len cap:Nat} (f:Nat→Value) (g:Nat→D) (hl:len≤cap) (hm:cap≤maxLen) (hc:∀i,i<len→w.cell? (a.add i)=some (f i)) (hr:∀i,i<len→bX (fU w) w (f i) (g i)):
  bX (fU w) w (.slice (some a) len cap) (.sl ((List.range len).map fun i=>[g i])):=by
 by_cases h0:len=0
 ·subst h0; exact .slnil (fun h=>by cases h)
 ·obtain ⟨b,o,sp⟩:=a
  have hs:sp=none:=by simpa [Addr.add] using World.cell?_spot (hc 0 (by omega))
  subst hs
  have h2:maxLen≤9223372036854775807:=by decide
  have get:∀{i:Nat} {x:List D} {j:Nat} {d:D},((List.range len).map fun i=>[g i])[i]? =some x→x[j]? =some d→i<len∧j=0∧d=g i:=fun {i x j d} h1 h3=>by
   rw [List.getElem?_map] at h1
   by_cases hi:i<len
   ·rw [List.getElem?_range hi] at h1
    simp only [Option.map_some,Option.some.injEq] at h1
    subst h1
    cases j with
    | zero=>simp at h3; exact ⟨hi,rfl,h3.symm⟩
    | succ j=>simp at h3
   ·rw [List.getElem?_eq_none (by simp; omega)] at h1; cases h1
  have iG:∀i,i<len→w.cell? ⟨b,o+i,none⟩=some (f i):=fun i hi=>by
   have:=hc i hi
   unfold Addr.add at this
   split at this
   ·rename_i e; subst e; simpa using this
   ·simpa using this
  refine bX.D8 (sz:=1) (by simp) (fun i _=>f i) (by simp; omega) (by simp; omega) (by simp) (fun i x j d h1 h3=>?_) (fun i x j d h1 h3=>?_)
  ·obtain ⟨hi,rfl,rfl⟩:=get h1 h3
   have:=iG i hi
   exact ⟨Hd this,by simpa using this⟩
  ·obtain ⟨hi,rfl,rfl⟩:=get h1 h3
   exact hr i hi
section
variable {H:Type} {enc:TypeId×Value→H} {P:Program} {w:World} {spare:Nat→Bool} {held:Bool}
theorem NK {t e:TypeId} {k:IntKind} {a:Option Addr} {len cap:Nat} {d:DataW H} {ps:List MemPlace} (ht:P.underlying t=some (.slice e)) (he:P.underlying e=some (.int k)) (hc:P.cellsOf e=1)
  (h:DataW.Trod enc P w 0 spare held t (.slice a len cap) d ps):∃l:List Int,(∀n∈l,(Lit.int k n).wf=true)∧bX (fU w) w (.slice a len cap) (.sl (l.map fun n=>[.int k n])):=by
 obtain ⟨fuel,hf⟩:=h
 rcases Go.ChangeShapes.open_ints ht he hc hf with ⟨Fl,_⟩ | ⟨x,l,c,zs,Fl,_,hl,hm,hz,_,iG,hwz⟩
 ·simp [Value.cells] at Fl
  obtain ⟨rfl,rfl,rfl⟩:=Fl
  exact ⟨[],by simp,.slnil (fun _=>rfl)⟩
 ·simp [Value.cells] at Fl
  obtain ⟨rfl,rfl,rfl⟩:=Fl
  have hlz:len≤zs.length:=by rw [hz]; split<;>omega
  refine ⟨(List.range len).map fun i=>zs.getD i 0,?_,?_⟩
  ·intro n hn
   obtain ⟨i,hi,rfl⟩:=List.mem_map.1 hn
   have hi:=List.mem_range.1 hi
   apply hwz
   rw [List.getD_eq_getElem?_getD,List.getElem?_eq_getElem (by omega)]
   exact List.getElem_mem _
  ·rw [List.map_map]
   exact wC (fun i=>.int k (zs.getD i 0)) (fun i=>.int k (zs.getD i 0)) hl hm (fun i hi=>iG i (by omega)) (fun i hi=>.int k _)
theorem aag {t e:TypeId} {a:Option Addr} {len cap:Nat} {d:DataW H} {ps:List MemPlace} (ht:P.underlying t=some (.slice e)) (he:P.underlying e=some .string) (hc:P.cellsOf e=1)
  (h:DataW.Trod enc P w 0 spare held t (.slice a len cap) d ps):∃l:List (List UInt8),bX (fU w) w (.slice a len cap) (.sl (l.map fun s=>[.str s])):=by
 obtain ⟨fuel,hf⟩:=h
 rcases Go.Deep.open_strs ht he hc hf with ⟨Fl,_⟩ | ⟨x,l,c,m,Sx,Fl,_,hl,hm,hz,_,iG⟩
 ·simp [Value.cells] at Fl
  obtain ⟨rfl,rfl,rfl⟩:=Fl
  exact ⟨[],.slnil (fun _=>rfl)⟩
 ·simp [Value.cells] at Fl
  obtain ⟨rfl,rfl,rfl⟩:=Fl
  have hlz:len≤m:=by rw [hz]; split<;>omega
  refine ⟨(List.range len).map fun i=>(Sx i).data.toList,?_⟩
  ·rw [List.map_map]
   exact wC (fun i=>.string (Sx i)) (fun i=>.str (Sx i).data.toList) hl hm (fun i hi=>(iG i (by omega)).1) (fun i hi=>Gw (iG i (by omega)).2)
theorem Y1 {κ:b9} {t:TypeId} {f0 f1:Field} {k0 k1:IntKind} {cs:Array Value} {d:DataW H} {ps:List MemPlace} (ht:P.underlying t=some (.struct #[f0,f1])) (h0:P.underlying f0.type=some (.int k0)) (h1:P.underlying f1.type=some (.int k1))
  (hc:P.cellsOf t=2) (c0:P.cellsOf f0.type=1) (c1:P.cellsOf f1.type=1) (o0:f0.offset=0) (o1:f1.offset=1)
  (h:DataW.Trod enc P w 0 spare held t (.agg cs) d ps):∃n m:Int,(Lit.int k0 n).wf=true∧(Lit.int k1 m).wf=true∧bX κ w (.agg cs) (.agg [.int k0 n,.int k1 m]):=by
 obtain ⟨fuel,hf⟩:=h
 obtain ⟨y0,y1,n,_,hl,g0,g1⟩:=Go.ChangeShapes.trod_struct2 ht hf
 rw [o0,c0] at g0
 rw [o1,c1] at g1
 rw [hc] at hl
 obtain ⟨a,e0,_,w0⟩:=DataW.trod_int h0 g0
 obtain ⟨b,e1,_,w1⟩:=DataW.trod_int h1 g1
 simp only [Value.cells] at hl e0 e1
 have Fl:cs= #[.int k0 a,.int k1 b]:=by
  obtain ⟨l⟩:=cs
  match l,hl with
  | [u,v],_=>
   simp at e0 e1
   rw [e0,e1]
 subst Fl
 refine ⟨a,b,w0,w1,.agg rfl fun i d hd=>?_⟩
 match i,hd with
 | 0,hd=>simp at hd; subst hd; exact .int _ _
 | 1,hd=>simp at hd; subst hd; exact .int _ _
end
end Go.Proofs.YtpklkpkfgmoghaaGreatDoor.Zz
namespace Go.Proofs.YtpklkpkfgmoghaaGreatDoor.Zz
open Go.RowKit
section
variable {P:Program} {w:World}
theorem C7:∀{laid:List (String×DataW Unit)} {ps:List MemPlace},DataW.LaidVars P w laid ps→∀{i:Nat} {n:String} {d:DataW Unit},laid[i]? =some (n,d)→
  ∃g t cs fuel p,P.globalNamed n=some g∧(P.globals[g]?).map (·.type)=some t∧w.var? P n=some cs∧DataW.trod (fun _=>()) P w 0 (fun _=>true) false fuel t cs.toList=some (d,p)∧∀x∈MemPlace.row ⟨g,0,none⟩ cs.size,x∈ps
 | [],ps,_,i,n,d,e=>by simp at e
 | (m,c)::r,ps,h,i,n,d,e=>by
  obtain ⟨g,t,cs,fuel,p,q,h1,h2,h3,h4,h5,h6⟩:=h
  cases i with
  | zero=>
   cases e
   exact ⟨g,t,cs,fuel,p,h1,h2,h3,h4,fun x hx=>by rw [h6]; simp [hx]⟩
  | succ i=>
   obtain ⟨g',t',xq,XY,p',k1,k2,k3,k4,k5⟩:=C7 h5 (i:=i) (by simpa using e)
   exact ⟨g',t',xq,XY,p',k1,k2,k3,k4,fun x hx=>by rw [h6]; simp [k5 x hx]⟩
theorem Lg {κ:b9} {laid:List (String×DataW Unit)} (h:laidMet P laid w) {i:Nat} {n:String} {g N:Nat} {t e:TypeId} {k:IntKind} (zs:List Int) (hm:laid[i]? =some (n,.agg (zs.map fun z=>.lit (.int k z))))
  (hg:P.globalNamed n=some g) (ht:(P.globals[g]?).map (·.type)=some t) (hu:P.underlying t=some (.array N e)) (he:P.underlying e=some (.int k)) (hc:P.cellsOf t=N) (ce:P.cellsOf e=1) (h0:0<N):
  ∃(cs:Array Value) (ty:TypeId),w.heap[g]? =some (.cells cs ty (0,0))∧cs.size=zs.length∧∀(j:Nat) (d:D),(zs.map fun z=>D.int k z)[j]? =some d→∃v,cs[j]? =some v∧bX κ w v d:=by
 obtain ⟨ps,hl,_,iG⟩:=h
 obtain ⟨g',t',cs,fuel,p,k1,k2,k3,k4,k5⟩:=C7 hl hm
 rw [hg] at k1
 cases k1
 rw [ht] at k2
 cases k2
 obtain ⟨xs,m,_,hx,hs,hn,hat⟩:=DataW.trod_array hu k4
 rw [ce] at hat
 have Fl:cs.size=N:=by simpa [hc] using hs
 have hzx:zs.map (fun z=>DataW.lit (H:=Unit) (.int k z))=xs.map (·.1):=by injection hx with h1 h2; injection h1
 have QN:zs.length=N:=by have:=congrArg List.length hzx; simp at this; omega
 obtain ⟨c,ty,hh⟩:=(iG g 0 (k5 _ (by
  simp only [MemPlace.row,List.mem_map,List.mem_range]
  exact ⟨0,by omega,rfl⟩))).1
 have kL:c=cs:=by
  simp only [World.var?,hg,Option.bind_some,hh] at k3
  exact Option.some.inj k3
 subst kL
 refine ⟨c,ty,hh,by omega,fun j d hd=>?_⟩
 have hj:j<N:=by have:=(List.getElem?_eq_some_iff.1 hd).1; simp at this; omega
 have g1:=hat j hj
 have e1:(c.toList.drop (j*1)).take 1=[c[j]'(by omega)]:=by
  rw [Nat.mul_one,List.drop_eq_getElem_cons (by simp; omega)]
  simp
 rw [e1,List.getElem?_eq_getElem (by omega)] at g1
 obtain ⟨a,e2,e3,_⟩:=DataW.trod_int he g1
 have e4:c[j]'(by omega)=.int k a:=by simpa using e2
 have e5:zs[j]'(by omega)=a:=by
  have:=congrArg (fun l:List (DataW Unit)=>l[j]?) hzx
  simp only [List.getElem?_map,List.getElem?_eq_getElem (show j<zs.length by omega),List.getElem?_eq_getElem (show j<xs.length by omega),Option.map_some,Option.some.injEq] at this
  rw [e3] at this
  simpa using this
 have e6:d=.int k a:=by
  simp only [List.getElem?_map,List.getElem?_eq_getElem (show j<zs.length by omega),Option.map_some,Option.some.injEq,e5] at hd
  exact hd.symm
 refine ⟨.int k a,by rw [Array.getElem?_eq_getElem (by omega),e4],?_⟩
 rw [e6]
 exact .int k a
end
section
variable {H:Type} {enc:TypeId×Value→H}
theorem Bn {a:Assume} {C:Checked} {os:Os} {f:FuncId} {fn:Func} {s:ChangeSpec} {conds:List PathCond} {apart fresh handsOn again:Bool} {X:World→Array Value→Prop}
  (hX:∀(w w':World) (args:Array Value),w.heap=w'.heap→X w args→X w' args)
  (own:ownKnob C.prog.godebug=none) (started:os.Started) (VM:C.prog.inits.idxOf? f=none) (Xf:C.prog.funcs[f]? =some fn)
  (witness:∃(w:World) (tape:Tape) (i:Input),w.os=os∧(w.forCall tape i).Shaped C.prog∧i.vars=[]∧Input.okWide C.prog (w.forCall tape i) .any w.heap.size f i∧
   ((s.pre enc C.prog fn conds apart (w.forCall tape i).memory i.args∧X (w.forCall tape i).memory i.args)∧sizedMet enc C.prog fn (OpenSpec.ofChange s) apart (w.forCall tape i).memory i.args)∧a.holds C.prog (lone (Frame.enter C.prog f i.args .normal) [] (w.forCall tape i)))
  (MT:∀(W:World) (base:Nat) (args:Array Value) (ds gs:List (DataW H)) (before:List MemPlace),
   (∀(j:Nat) t v,fn.params[j]? =some t→args[j]? =some v→Value.okWide C.prog W .any base t v)→
   DataW.Whole enc C.prog fn.params.toList s.vars apart W args.toList ds gs before→
   conds.all (PathCond.test C.prog ⟨fn.params.toList,ds,s.plain.varTypes C.prog,gs⟩)=true→X W args→W.ShapedOpen C.prog→
   Calls C.prog f args W fun e W'=>∃v,e=.returned v∧s.post enc C.prog fn apart fresh handsOn again W args v W'):
  ReturnsInHanded a C os f .any (fun w args=>(s.pre enc C.prog fn conds apart w args∧X w args)∧sizedMet enc C.prog fn (OpenSpec.ofChange s) apart w args) (s.post enc C.prog fn apart fresh handsOn again):=by
 refine returnsInHanded_of_calls own started VM witness ?_
 intro w tape i _ hsh _ kM Nx _
 obtain ⟨_,_,_,fn',abr,_,_,_,_,rZ⟩:=kM
 have e:fn'=fn:=Option.some.inj (abr.symm.trans Xf)
 subst e
 obtain ⟨⟨⟨ds,gs,before,hw,hc⟩,hx⟩,hz⟩:=Nx
 have hw':=DataW.Whole.of_heap (w':=w.forCall tape i) (by rfl) hw
 refine (MT (w.forCall tape i) w.heap.size i.args ds gs before rZ hw' hc (hX _ _ _ (by rfl) hx) hsh).mono fun e W' ⟨v,he,hp⟩=>?_
 subst he
 exact ChangeSpec.post_blind hp
end
def cellsOf:DataW Unit→List Value
 | .agg xs=>xs.flatMap fun
  | .lit (.int k n)=>[.int k n]
  | .agg ys=>ys.flatMap fun
   | .lit (.int k n)=>[.int k n]
   | _=>[]
  | _=>[]
 | _=>[]
def Nc (h:Array Obj):List (Nat×Array Value)→Array Obj
 | []=>h
 | (g,cs)::r=>Nc (h.modify g fun
   | .cells _ t fz=>.cells cs t fz
   | o=>o) r
theorem aM.toA [aL] {P:Program} {f:FuncId} {args:List D} {d:D} (hv:aM P f args d) (h:aa):aO P f args h fun o h'=>o=.ret d∧h'=h:=by
 refine ⟨hv.1,fun κ w vs hi hr=>?_⟩
 have sub:=aa.iW h
 refine (hv.2 κ w vs (hi.sub sub) hr).mono fun e w' ⟨o,h',gJ,a0,a2,a3,a4⟩=>?_
 subst a0
 obtain ⟨f1,f2,_⟩:=hi.frame sub a3 a4
 have OP:h.sub (h'.union (h.minus .emp)):=fun id o ho=>by
  obtain ⟨p,hp,_⟩:=hi.obj id o ho
  have:=a4.ids id p hp rfl
  simpa [aa.union,aa.minus,this] using ho
 exact ⟨.ret d,h,gJ,⟨rfl,rfl⟩,a2,f1.sub OP,{ f2 with own:=fun b hb ho=>f2.own b hb (ho.sub OP),ids:=fun id p hp hn=>hn }⟩
end Go.Proofs.YtpklkpkfgmoghaaGreatDoor.Zz
