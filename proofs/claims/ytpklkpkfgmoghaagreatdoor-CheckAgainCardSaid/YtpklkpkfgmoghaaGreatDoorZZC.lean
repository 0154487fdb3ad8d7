/- Running code by laws: what is left to do is data, so that nothing is looked at before its turn. -/
import Derived.Test.YtpklkpkfgmoghaaGreatDoorZU
import Derived.Below
import Derived.ChangeSlices
import Derived.ChangeSame
import Derived.Deep.Strs
import Derived.LaidLaws
import Derived.Deep.DeepLaidRun
import Derived.Handed
import Derived.HandedShaped
import Derived.OpenShut
import Derived.MakeChecks
import Derived.Shelf.Vars
set_option linter.unnecessarySimpa false
set_option linter.unusedVariables false
set_option linter.unusedSimpArgs false
namespace Go.Proofs.YtpklkpkfgmoghaaGreatDoor.Zz
variable {T:bh} {K:Ex→Fr→aa→Prop} {E:Fr→D→aa→Prop} {σ:Fr} {h:aa}
inductive Item where
 | stm (s:dU)
 | blk (id:Nat)
 | lp (Q:Fr→aa→Prop)
def todo (T:bh) (K:Ex→Fr→aa→Prop) (E:Fr→D→aa→Prop):List Item→Ex→Fr→aa→Prop
 | [],e,σ,h=>K e σ h
 | .stm s::k,e,σ,h=>match e with
  | .normal=>vc T s (todo T K E k) E σ h
  | e=>todo T K E k e σ h
 | .blk id::k,e,σ,h=>match e with
  | .exit i=>if i=id then todo T K E k .normal σ h else todo T K E k (.exit i) σ h
  | e=>todo T K E k e σ h
 | .lp Q::k,e,σ,h=>match e with
  | .normal=>Q σ h
  | e=>todo T K E k e σ h
theorem cA {s:dU}:vc T s K E σ h=vc T s (todo T K E []) E σ h:=by
 congr 1
theorem IU {k:List Item}:vc T .skip (todo T K E k) E σ h=todo T K E k .normal σ h:=rfl
theorem IQ {id:Nat} {k:List Item}:vc T (.exit id) (todo T K E k) E σ h=todo T K E k (.exit id) σ h:=rfl
theorem Of {k:List Item}:vc T .ret (todo T K E k) E σ h=todo T K E k .ret σ h:=rfl
theorem run_seq {a b:dU} {k:List Item}:vc T (.seq a b) (todo T K E k) E σ h=vc T a (todo T K E (.stm b::k)) E σ h:=by
 show vc T a _ E σ h=vc T a _ E σ h
 congr 1
theorem DV {id:Nat} {s:dU} {k:List Item}:vc T (.block id s) (todo T K E k) E σ h=vc T s (todo T K E (.blk id::k)) E σ h:=by
 show vc T s _ E σ h=vc T s _ E σ h
 congr 1
def V4 (T:bh) (K:Ex→Fr→aa→Prop) (E:Fr→D→aa→Prop) (c:iC) (a b:dU) (k:List Item) (σ:Fr) (h:aa):D→Prop
 | .bool t=>(t=true→vc T a (todo T K E k) E (σ.mark c true) h)∧(t=false→vc T b (todo T K E k) E (σ.mark c false) h)
 | _=>False
theorem IP {c:iC} {a b:dU} {k:List Item}:vc T (.cond c a b) (todo T K E k) E σ h=V4 T K E c a b k σ h (σ.ev c):=by
 show (match σ.ev c with | .bool t=>_ | _=>False)=_
 generalize σ.ev c=d
 cases d<;>rfl
theorem Mf {c:iC} {a b:dU} {k:List Item} {t:Bool}:V4 T K E c a b k σ h (.bool t)=((t=true→vc T a (todo T K E k) E (σ.mark c true) h)∧(t=false→vc T b (todo T K E k) E (σ.mark c false) h)):=rfl
theorem Ki {s:dU} {k:List Item}:todo T K E (.stm s::k) .normal σ h=vc T s (todo T K E k) E σ h:=rfl
theorem uV {s:dU} {k:List Item}:todo T K E (.stm s::k) .ret σ h=todo T K E k .ret σ h:=rfl
theorem s4 {s:dU} {i:Nat} {k:List Item}:todo T K E (.stm s::k) (.exit i) σ h=todo T K E k (.exit i) σ h:=rfl
theorem Kg {id:Nat} {k:List Item}:todo T K E (.blk id::k) .normal σ h=todo T K E k .normal σ h:=rfl
theorem uT {id:Nat} {k:List Item}:todo T K E (.blk id::k) .ret σ h=todo T K E k .ret σ h:=rfl
theorem s3 {id i:Nat} {k:List Item}:todo T K E (.blk id::k) (.exit i) σ h=if i=id then todo T K E k .normal σ h else todo T K E k (.exit i) σ h:=rfl
theorem Ro {Q:Fr→aa→Prop} {k:List Item}:todo T K E (.lp Q::k) .normal σ h=Q σ h:=rfl
theorem yd {Q:Fr→aa→Prop} {k:List Item}:todo T K E (.lp Q::k) .ret σ h=todo T K E k .ret σ h:=rfl
theorem uU {Q:Fr→aa→Prop} {i:Nat} {k:List Item}:todo T K E (.lp Q::k) (.exit i) σ h=todo T K E k (.exit i) σ h:=rfl
theorem Kh {e:Ex}:todo T K E [] e σ h=K e σ h:=rfl
def aeo (T:bh) (os:List fw) (K:Fr→aa→Prop) (E:Fr→D→aa→Prop) (d:Option Nat) (σ:Fr) (x:D) (h:aa):Prop:=gE T os K E (σ.put d x) h
def ask:Option D→(D→aa→Prop)→aa→Prop
 | some x,K,h=>K x h
 | none,_,_=>False
def yh:Option aa→(D→aa→Prop)→Prop
 | some h,K=>K .undef h
 | none,_=>False
theorem zu {x:D} {K:D→aa→Prop}:ask (some x) K h=K x h:=rfl
theorem Gz {K:D→aa→Prop}:ask none K h=False:=rfl
theorem EP {c:Prop} [Decidable c] {o:Option D} {K:D→aa→Prop}:ask (if c then o else none) K h=(c∧ask o K h):=by
 split<;>simp_all [ask]
theorem Cl {K:D→aa→Prop}:yh (some h) K=K .undef h:=rfl
theorem Ck {K:D→aa→Prop}:yh none K=False:=rfl
theorem Gy {c:Prop} [Decidable c] {o:Option aa} {K:D→aa→Prop}:yh (if c then o else none) K=(c∧yh o K):=by
 split<;>simp_all [yh]
theorem ll {o:Option D} {K:D→aa→Prop}:(∃d,o=some d∧K d h)=ask o K h:=by
 cases o<;>simp [ask]
theorem yG {o:Option aa} {K:D→aa→Prop}:(∃h',o=some h'∧K .undef h')=yh o K:=by
 cases o<;>simp [yh]
section
variable {os:List fw} {K:Fr→aa→Prop} {d:Option Nat} {x:D}
theorem HX:aeo T os K E d σ x h=gE T os K E (σ.put d x) h:=rfl
theorem aid {i:cf iC}:gE T (⟨i,d,none,true⟩::os) K E σ h=ask (ew (i.map σ.ev)) (aeo T os K E d σ) h:=by
 rw [←ll]; rfl
theorem aic {i:cf iC}:gE T (⟨i,d,none,false⟩::os) K E σ h=eV T (i.map σ.ev) h (aeo T os K E d σ) (E σ):=rfl
def guard (T:bh) (i:cf iC) (d:Option Nat) (t:Nat) (want p:Bool) (os:List fw) (K:Fr→aa→Prop) (E:Fr→D→aa→Prop) (σ:Fr) (h:aa):D→Prop
 | .bool b=>(b=want→gE T (⟨i,d,none,p⟩::os) K E (σ.put (some t) (.bool want)) h)∧(b= !want→gE T os K E ((σ.put (some t) (.bool (!want))).put d (.tuple [])) h)
 | .tuple []=>gE T os K E (σ.put d (.tuple [])) h
 | _=>False
theorem aib {i:cf iC} {t:Nat} {want p:Bool}:gE T (⟨i,d,some (t,want),p⟩::os) K E σ h=guard T i d t want p os K E σ h (σ.env t):=by
 simp only [gE,opA]
 cases e:σ.env t with
 | bool b=>
  simp only [guard]
  congr 1
  apply propext
  constructor
  ·intro h1 hb; subst hb; rw [Fr.mw e] at h1 ⊢; exact h1 rfl
  ·intro h1 hb; subst hb; rw [Fr.mw e] at h1 ⊢; exact h1 rfl
 | tuple ds=>cases ds<;>rfl
 | _=>rfl
theorem Zq {i:cf iC} {t:Nat} {p b:Bool}:guard T i d t true p os K E σ h (.bool b)=((b=true→gE T (⟨i,d,none,p⟩::os) K E (σ.put (some t) (.bool true)) h)∧(b=false→gE T os K E ((σ.put (some t) (.bool false)).put d (.tuple [])) h)):=rfl
theorem Zp {i:cf iC} {t:Nat} {p b:Bool}:guard T i d t false p os K E σ h (.bool b)=((b=false→gE T (⟨i,d,none,p⟩::os) K E (σ.put (some t) (.bool false)) h)∧(b=true→gE T os K E ((σ.put (some t) (.bool true)).put d (.tuple [])) h)):=rfl
theorem HD {i:cf iC} {t:Nat} {want p:Bool}:guard T i d t want p os K E σ h (.tuple [])=gE T os K E (σ.put d (.tuple [])) h:=rfl
end
theorem adi {x:D}:ew (.cB x)=some x:=rfl
theorem Ys {c:Bool} {a b:D}:ew (.pick (.bool c) a b)=some (bif c then a else b):=rfl
theorem Rw {zs:List D} {ps:List (Nat×Nat×D)}:ew (.build zs ps)=(jP zs ps).map .agg:=rfl
theorem akl {sz len:Nat} {zs:List D} {ps:List (Nat×D)}:ew (.buildSlice sz zs len ps false)=(fD sz (rowsOf sz zs len) ps).map fun xs=>.sl (sQ zs xs):=rfl
theorem Kz {a b c:Nat}:ew (.nilCheck (.ptr a b c))=some (.ptr a b c):=rfl
theorem Eu {a:List D} {c:Nat}:ew (.nilCheck (.cO a c))=some (.cO a c):=rfl
theorem Ey {a b c d:Nat}:ew (.nilCheck (.fT a b c d))=some (.fT a b c d):=rfl
theorem Ew {k:FuncId} {a b:List D}:ew (.nilCheck (.func (.func k) a b))=some (.func (.func k) a b):=rfl
theorem ade {op:BinOp} {x y:D}:ew (.bin op x y)=lE op x y:=rfl
theorem adf {t:ET} {neg:Bool} {x y:D}:ew (.eql t neg x y)=(kh t x y).map fun b=>.bool (if neg then !b else b):=rfl
theorem akm {op:UnOp} {x:D}:ew (.un op x)=pb op x:=rfl
theorem Kv {k k':IntKind} {n:Int}:ew (.conv (.qJ k) (.int k' n))=some (.int k (k.wrap n)):=rfl
theorem BI {k':IntKind} {n:Int}:ew (.conv .uh (.int k' n))=some (.float .f64 (FloatKind.f64.nearest n)):=rfl
theorem Yt {s:List UInt8}:ew (.conv .same (.str s))=some (.str s):=rfl
theorem BJ {s:List UInt8}:ew (.conv .ld (.str s))=some (.sl (fX s)):=rfl
theorem Ry {k:SK} {x:D} {lo hi mx:Option D}:ew (.slice k x lo hi mx)=gH k x lo hi mx:=rfl
theorem Kq {o a b c:Nat}:ew (.fieldAddr o (.ptr a b c))=some (.ptr a b (c+o)):=rfl
theorem Eo {o c:Nat} {a:List D}:ew (.fieldAddr o (.cO a c))=some (.cO a (c+o)):=rfl
theorem Ep {o a b c d:Nat}:ew (.fieldAddr o (.fT a b c d))=some (.fT a b c (d+o)):=rfl
theorem Rx {o:Nat} {n:Option Nat} {ds:List D}:ew (.field o n (.agg ds))=iF ds o n:=rfl
theorem Ks {len sz a b c:Nat} {k:IntKind} {i:Int}:ew (.hU len sz (.ptr a b c) (.int k i))=if 0≤i∧i<len then some (.ptr a b (c+i.toNat*sz)) else none:=rfl
theorem Er {len sz c:Nat} {a:List D} {k:IntKind} {i:Int}:ew (.hU len sz (.cO a c) (.int k i))=if 0≤i∧i<len then some (.cO a (c+i.toNat*sz)) else none:=rfl
theorem Es {len sz a b c d:Nat} {k:IntKind} {i:Int}:ew (.hU len sz (.fT a b c d) (.int k i))=if 0≤i∧i<len then some (.fT a b c (d+i.toNat*sz)) else none:=rfl
theorem Kt {len sz:Nat} {n:Option Nat} {ds:List D} {k:IntKind} {i:Int}:ew (.vM len sz n (.agg ds) (.int k i))=if 0≤i∧i<len then iF ds (i.toNat*sz) n else none:=rfl
theorem Ku {s:List UInt8} {k:IntKind} {i:Int}:ew (.jS (.str s) (.int k i))=if 0≤i∧i<s.length then some (.int .u8 ((s.getD i.toNat 0).toNat:Int)) else none:=Sn s k i
theorem Kx {s:List UInt8} {k:IntKind} {i:Int}:ew (.aS 1 (.sl (fX s)) (.int k i))=if 0≤i∧i<s.length then some (.cO [.int .u8 ((s.getD i.toNat 0).toNat:Int)] 0) else none:=by
 show bC (.aS 1 (.sl (fX s)) (.int k i))=_
 rw [B6,qM]
 by_cases h:0≤i∧i<s.length
 ·rw [if_pos h,Sr s _ (by omega),if_pos ⟨h,rfl⟩]
 ·rw [if_neg h,if_neg (fun x=>h x.1)]
theorem Kw {id off len:Nat} {k:IntKind} {i:Int}:ew (.aS 1 (.u7 id off len) (.int k i))=if 0≤i∧i<len∧(1:Nat)=1 then some (.ptr id 1 (off+i.toNat)) else none:=rfl
theorem En {ds:List D} {i:Nat}:ew (.extract (.tuple ds) i)=ds[i]? :=rfl
theorem Et {t:TypeId} {x:D}:ew (.nf t x)=some (.iface t x):=rfl
theorem Ky {fn:Fn} {a b:List D}:ew (.mkFunc fn a b)=some (.func fn a b):=rfl
theorem adg {k k':IntKind} {a b:Int}:ew (.qN true (.int k a) (.int k' b))=some (.int k (if a<b then b else a)):=rfl
theorem adh {k k':IntKind} {a b:Int}:ew (.qN false (.int k a) (.int k' b))=some (.int k (if b<a then b else a)):=rfl
theorem Yr {k:LK} {x:D}:ew (.tl k x)=p9 k x:=rfl
section
variable {K E:D→aa→Prop}
theorem NG {ds:List D}:eV T (.alloc ds) h K E=∀id,h.f id=none→K (.ptr id 1 0) (h.set id (.cells ds)):=rfl
theorem abK {x:D}:eV T (.box x) h K E=((cellsD x).all bX=true∧∀id,h.f id=none→K (.ptr id 1 0) (h.set id (.cells (cellsD x)))):=rfl
theorem ahV {sz len:Nat} {zs:List D} {ps:List (Nat×D)}:eV T (.buildSlice sz zs len ps true) h K E=∃xs,fD sz (rowsOf sz zs len) ps=some xs∧∀id,h.f id=none→K (.row id (len+2) 0 len) (h.set id (.row sz (len+2) xs false)):=rfl
theorem Vz {n:Option Nat} {x:D}:eV T (.load n x) h K E=ask (fj h n x) K h:=by rw [←ll]; rfl
theorem HR {n:Option Nat} {x b:D}:eV T (.cQ n x b) h K E=ask (if fy x b=true then fj h n x else none) K h:=by rw [←ll]; rfl
theorem HO {k:FuncId} {first cap args ys:List D}:eV T (.callNe (.func (.func k) first cap) args ys) h K E=T.c k ((first++args++cap).map (plain h)) (fQ h (first++args++cap)) (fun d h'=>(∀y∈ys,iz h h' y)∧K d h') E:=rfl
theorem NH {k:FuncId}:eV T (.oa k) h K E=∃ds,T.a k=some ds∧∀id,h.f id=none→K (.ptr id 1 0) (h.set id (.cells ds)):=rfl
theorem NK {n:Nat} {x v:D}:eV T (.store n x v) h K E=yh (gT h n x v) K:=by rw [←yG]; rfl
theorem Dc {n:Nat} {x v:D} {ys:List D}:eV T (.storeNe n x v ys) h K E=(ys.all (iS x)=true∧yh (gT h n x v) K):=by rw [←yG]; rfl
theorem pv {x:D}:eV T (.conv .eX x) h K E=ask (dB h (.conv .eX x)) K h:=by rw [←ll]; rfl
theorem wJ {k:SK} {r aY off len:Nat} {lo hi mx:Option D}:eV T (.slice k (.row r aY off len) lo hi mx) h K E=ask (dB h (.slice k (.row r aY off len) lo hi mx)) K h:=by rw [←ll]; rfl
theorem wK {k:SK} {s:List UInt8} {lo hi mx:Option D}:eV T (.slice k (.str s) lo hi mx) h K E=ask (gH k (.str s) lo hi mx) K h:=by rw [←ll]; rfl
theorem Aw {k:SK} {s:List (List D)} {lo hi mx:Option D}:eV T (.slice k (.sl s) lo hi mx) h K E=ask (gH k (.sl s) lo hi mx) K h:=by rw [←ll]; rfl
theorem wI {k:SK} {a b c:Nat} {lo hi mx:Option D}:eV T (.slice k (.ptr a b c) lo hi mx) h K E=ask (gH k (.ptr a b c) lo hi mx) K h:=by rw [←ll]; rfl
theorem wG {sz r aY off len:Nat} {i:D}:eV T (.aS sz (.row r aY off len) i) h K E=ask (dB h (.aS sz (.row r aY off len) i)) K h:=by rw [←ll]; rfl
theorem LP {sz:Nat} {xs:List (List D)} {i:D}:eV T (.aS sz (.sl xs) i) h K E=ask (bC (.aS sz (.sl xs) i)) K h:=by rw [←ll]; rfl
def fx (sz:Nat) (K:D→aa→Prop) (h:aa) (xs:List (List D)) (i:Int):Prop:=(0≤i∧i<xs.length)∧∀x,xs[i.toNat]? =some x→x.length=sz∧K (.cO x 0) h
theorem wE {sz:Nat} {xs:List (List D)} {k:IntKind} {i:Int}:eV T (.aS sz (.sl xs) (.int k i)) h K E=fx sz K h xs i:=by
 rw [LP]
 simp only [bC,fx]
 by_cases h0:0≤i
 ·rw [if_pos h0]
  cases e:xs[i.toNat]? with
  | none=>
   have:¬i<(xs.length:Int):=by have:=List.getElem?_eq_none_iff.1 e; omega
   simp [ask,this]
  | some x=>
   have:i.toNat<xs.length:=(List.getElem?_eq_some_iff.1 e).1
   have h2:i<(xs.length:Int):=by omega
   simp only [EP,zu,h0,h2,and_self,true_and,Option.some.injEq,forall_eq']
 ·simp [h0,ask]
theorem Gx {s:List UInt8} {i:Int}:fx 1 K h (fX s) i=((0≤i∧i<s.length)∧K (.cO [.int .u8 ((s.getD i.toNat 0).toNat:Int)] 0) h):=by
 simp only [fx,qM]
 by_cases h0:0≤i∧i<s.length
 ·rw [Zk s _ (by omega)]
  simp [h0]
 ·simp [h0]
theorem n9 {α:Type} {sz:Nat} {f:α→List D} {l:List α} {i:Int} (hf:∀x,(f x).length=sz):fx sz K h (l.map f) i=((0≤i∧i<l.length)∧∀x,l[i.toNat]? =some x→K (.cO (f x) 0) h):=by
 simp only [fx,List.length_map,List.getElem?_map,Option.map_eq_some_iff]
 congr 1
 apply propext
 constructor
 ·intro q x hx; exact (q (f x) ⟨x,hx,rfl⟩).2
 ·rintro q _ ⟨x,hx,rfl⟩; exact ⟨hf x,q x hx⟩
theorem wF {sz id off len:Nat} {i:D}:eV T (.aS sz (.u7 id off len) i) h K E=ask (bC (.aS sz (.u7 id off len) i)) K h:=by rw [←ll]; rfl
theorem Db {s:List UInt8}:eV T (.len .str (.str s)) h K E=(s.length≤9223372036854775807→K (.int .i64 (s.length:Int)) h):=rfl
theorem C8 {n:Nat} {x:D}:eV T (.len (.arr n) x) h K E=K (.int .i64 (n:Int)) h:=rfl
theorem vL:eV T (.len .sl .aZ) h K E=K (.int .i64 0) h:=rfl
theorem HQ {xs:List (List D)}:eV T (.len .sl (.sl xs)) h K E=(xs.length≤9223372036854775807→K (.int .i64 (xs.length:Int)) h):=rfl
theorem Da {r aY off len:Nat}:eV T (.len .sl (.row r aY off len)) h K E=(len≤9223372036854775807→K (.int .i64 (len:Int)) h):=rfl
theorem C_ {id off len:Nat}:eV T (.len .sl (.u7 id off len)) h K E=(len≤9223372036854775807→K (.int .i64 (len:Int)) h):=rfl
theorem wH {sz b:Nat} {zs:List D} {k k':IntKind} {l c:Int}:eV T (.makeSlice sz b zs (.int k l) (.int k' c)) h K E=(0≤l∧l=c∧l*b≤140737488355328∧zs.length=sz∧0<sz∧∀id,h.f id=none→K (.row id (l.toNat+2) 0 l.toNat) (h.set id (.row sz (l.toNat+2) (rowsOf sz zs l.toNat) false))):=rfl
theorem Vy {k:FuncId} {first cap args:List D}:eV T (.call (.func (.func k) first cap) args) h K E=T.c k ((first++args++cap).map (plain h)) (fQ h (first++args++cap)) K E:=rfl
theorem NI {k:FuncId} {first cap args:List D}:eV T (.qcall (.func (.func k) first cap) args) h K E=ask (T.q k ((first++args++cap).map (plain h))) (fun d h'=>K d (gO d h h')) (fQ h (first++args++cap)):=by rw [←ll]; rfl
theorem Dq {b:Bool} {h h':aa}:gO (.bool b) h h'=h:=rfl
theorem H3 {k:IntKind} {n:Int} {h h':aa}:gO (.int k n) h h'=h:=rfl
theorem Ax {k:FloatKind} {n:Nat} {h h':aa}:gO (.float k n) h h'=h:=rfl
theorem H4 {s:List UInt8} {h h':aa}:gO (.str s) h h'=h:=rfl
theorem H2 {ds:List D} {h h':aa}:gO (.agg ds) h h'=h':=rfl
theorem AA {ds:List D} {h h':aa}:gO (.tuple ds) h h'=h':=rfl
theorem NS {xs:List (List D)} {h h':aa}:gO (.sl xs) h h'=h':=rfl
theorem Dr {f:Fn} {a b:List D} {h h':aa}:gO (.func f a b) h h'=h':=rfl
theorem Ay {t:TypeId} {d:D} {h h':aa}:gO (.iface t d) h h'=h':=rfl
theorem Az {h h':aa}:gO .gX h h'=h':=rfl
theorem Ds {d:D} {h:aa}:gO d h h=h:=by cases d<;>rfl
theorem yU {t:TypeId} {d:D}:eV T (.panic (.iface t d)) h K E=E (.iface t d) h:=rfl
def BX (sz bytes:Nat) (s:D) (h:aa) (K:D→aa→Prop):Option (List (List D))→Prop
 | none=>False
 | some ys=>(∀y∈ys,y.length=sz∧y.all bX=true)∧0<bytes∧
   (match s with
    | .aZ=>(ys=[]→K .aZ h)∧ys.length*bytes≤140737488355328∧(ys≠[]→∀id,h.f id=none→K (.row id (ys.length+2) 0 ys.length) (h.set id (.row sz (ys.length+2) ys false)))
    | .row r aY off len=>match h.f r with
     | some (.row jy cC xs false)=>aY=cC∧jy=sz∧off=0∧len=xs.length∧(xs.length+ys.length)*bytes≤140737488355328∧
       K (.row r (aY+ys.length) 0 (len+ys.length)) (h.set r (.row sz (aY+ys.length) (xs++ys) false))
     | _=>False
    | _=>False)
theorem HM {sz b:Nat} {str:Bool} {s x:D}:eV T (.append sz b str s x) h K E=BX sz b s h K (sY h str x):=by
 simp only [eV]
 generalize sY h str x=o
 cases o with
 | none=>simp [BX]
 | some ys=>simp only [Option.some.injEq,exists_eq_left',BX]; rfl
theorem D_ {b:List UInt8}:sY h true (.str b)=some (fX b):=rfl
theorem I5 {x:D}:sY h false x=dH h x:=rfl
theorem yE {sz b:Nat} {ys:List (List D)}:BX sz b .aZ h K (some ys)=((∀y∈ys,y.length=sz∧y.all bX=true)∧0<b∧(ys=[]→K .aZ h)∧ys.length*b≤140737488355328∧(ys≠[]→∀id,h.f id=none→K (.row id (ys.length+2) 0 ys.length) (h.set id (.row sz (ys.length+2) ys false)))):=rfl
def agJ (sz b r aY off len:Nat) (ys:List (List D)) (h:aa) (K:D→aa→Prop):Option cJ→Prop
 | some (.row jy cC xs false)=>aY=cC∧jy=sz∧off=0∧len=xs.length∧(xs.length+ys.length)*b≤140737488355328∧
       K (.row r (aY+ys.length) 0 (len+ys.length)) (h.set r (.row sz (aY+ys.length) (xs++ys) false))
 | _=>False
theorem yF {sz b r aY off len:Nat} {ys:List (List D)}:BX sz b (.row r aY off len) h K (some ys)=((∀y∈ys,y.length=sz∧y.all bX=true)∧0<b∧agJ sz b r aY off len ys h K (h.f r)):=by
 simp only [BX]
 congr 2
theorem tO {sz b r aY off len jy cC:Nat} {ys xs:List (List D)}:agJ sz b r aY off len ys h K (some (.row jy cC xs false))=(aY=cC∧jy=sz∧off=0∧len=xs.length∧(xs.length+ys.length)*b≤140737488355328∧
       K (.row r (aY+ys.length) 0 (len+ys.length)) (h.set r (.row sz (aY+ys.length) (xs++ys) false))):=rfl
def zh (sz bytes:Nat) (s:D) (h:aa) (K:D→aa→Prop):Option (List (List D))→Prop
 | none=>False
 | some ys=>(∀y∈ys,y.length=sz∧y.all bX=true)∧0<bytes∧
   (match s with
    | .aZ=>ys≠[]∧ys.length*bytes≤140737488355328∧∀id,h.f id=none→K (.row id 2 0 ys.length) (h.set id (.dz sz 2 ys []))
    | .row r aY off len=>match h.f r with
     | some (.dz jy cC xs du)=>ys≠[]∧aY=cC∧jy=sz∧off=0∧len=xs.length∧(xs.length+ys.length)*bytes≤140737488355328∧
       K (.row r (aY+1) 0 (len+ys.length)) (h.set r (.dz sz (aY+1) (xs++ys) ((aY,len)::du)))
     | some (.row jy cC xs false)=>aY=cC∧jy=sz∧off=0∧len=xs.length∧(xs.length+ys.length)*bytes≤140737488355328∧
       K (.row r (aY+ys.length) 0 (len+ys.length)) (h.set r (.row sz (aY+ys.length) (xs++ys) false))
     | _=>False
    | _=>False)
theorem rY {sz b:Nat} {str:Bool} {s x:D} {zs:List D}:eV T (.appendA sz b str s x zs) h K E=(zs.all (cellAt h)=true∧zh sz b s h K (sY h str x)):=by
 simp only [eV]
 generalize sY h str x=o
 cases o with
 | none=>simp [zh]
 | some ys=>simp only [Option.some.injEq,exists_eq_left',zh]; rfl
theorem zi {sz b:Nat} {ys:List (List D)}:zh sz b .aZ h K (some ys)=((∀y∈ys,y.length=sz∧y.all bX=true)∧0<b∧ys≠[]∧ys.length*b≤140737488355328∧∀id,h.f id=none→K (.row id 2 0 ys.length) (h.set id (.dz sz 2 ys []))):=rfl
def TR (sz b r aY off len:Nat) (ys:List (List D)) (h:aa) (K:D→aa→Prop):Option cJ→Prop
 | some (.dz jy cC xs du)=>ys≠[]∧aY=cC∧jy=sz∧off=0∧len=xs.length∧(xs.length+ys.length)*b≤140737488355328∧
       K (.row r (aY+1) 0 (len+ys.length)) (h.set r (.dz sz (aY+1) (xs++ys) ((aY,len)::du)))
 | some (.row jy cC xs false)=>aY=cC∧jy=sz∧off=0∧len=xs.length∧(xs.length+ys.length)*b≤140737488355328∧
       K (.row r (aY+ys.length) 0 (len+ys.length)) (h.set r (.row sz (aY+ys.length) (xs++ys) false))
 | _=>False
theorem zj {sz b r aY off len:Nat} {ys:List (List D)}:zh sz b (.row r aY off len) h K (some ys)=((∀y∈ys,y.length=sz∧y.all bX=true)∧0<b∧TR sz b r aY off len ys h K (h.f r)):=by
 simp only [zh]
 congr 2
theorem vf {sz b r aY off len jy cC:Nat} {ys xs:List (List D)} {du:List (Nat×Nat)}:TR sz b r aY off len ys h K (some (.dz jy cC xs du))=(ys≠[]∧aY=cC∧jy=sz∧off=0∧len=xs.length∧(xs.length+ys.length)*b≤140737488355328∧
       K (.row r (aY+1) 0 (len+ys.length)) (h.set r (.dz sz (aY+1) (xs++ys) ((aY,len)::du)))):=rfl
theorem Ci {sz b r aY off len jy cC:Nat} {ys xs:List (List D)}:TR sz b r aY off len ys h K (some (.row jy cC xs false))=(aY=cC∧jy=sz∧off=0∧len=xs.length∧(xs.length+ys.length)*b≤140737488355328∧
       K (.row r (aY+ys.length) 0 (len+ys.length)) (h.set r (.row sz (aY+ys.length) (xs++ys) false))):=rfl
theorem AU {ds:List D}:tv h (.agg ds)=plain h (.agg ds):=rfl
theorem Hj {ds:List D}:Ff h (.agg ds)=hO h (.agg ds):=rfl
theorem HT {n:Nat} {x v:D}:eV T (.j6 n x v) h K E=yh (gT (Ff h v) n x (tv h v)) K:=by rw [←yG]; rfl
def stB (n:Nat) (x:D) (K:D→aa→Prop):Option (D×aa)→Prop
 | some p=>yh (gT p.2 n x p.1) K
 | none=>False
theorem HS {n:Nat} {x v:D}:eV T (.lA n x v) h K E=stB n x K (GZ h v):=by
 simp only [eV]
 generalize GZ h v=o
 cases o with
 | none=>rfl
 | some p=>simp only [stB]; rw [←yG]
theorem I6 {n:Nat} {x:D} {p:D×aa}:stB n x K (some p)=yh (gT p.2 n x p.1) K:=rfl
def Ch (v l cur n:Nat) (du:List (Nat×Nat)):Prop:=(v=cur∧l=n)∨(v,l)∈du
theorem UN {d1 d2 e1 e2:D} {h1 h2:aa} (a:E8 h d1=some (e1,h1)) (b:E8 h1 d2=some (e2,h2)):GZ h (.agg [d1,d2])=some (.agg [e1,e2],h2):=by
 simp only [GZ,UM,a,b]
theorem CH (s:List UInt8):(∀y∈fX s,y.length=1∧y.all bX=true)=True:=by simp [fX,bX]
end
def FU (aY off len:Nat):Option cJ→Option D
 | some (.row sz cC xs fz)=>if aY=cC∧off+len≤xs.length then (if ((xs.drop off).take len).all isByte=true then some (.str (((xs.drop off).take len).map byteOf)) else none) else none
 | _=>none
theorem Dg {r aY off len:Nat} {K E:D→aa→Prop}:eV T (.conv .eX (.row r aY off len)) h K E=ask (FU aY off len (h.f r)) K h:=by
 rw [pv]
 congr 1
 simp only [dB,dH]
 generalize h.f r=o
 cases o with
 | none=>rfl
 | some o=>
  cases o with
  | row sz cC xs fz=>
   simp only [FU]
   by_cases hc:aY=cC∧off+len≤xs.length
   ·rw [if_pos hc,if_pos hc]
   ·rw [if_neg hc,if_neg hc]
  | _=>rfl
theorem Bz {aY off len sz cC:Nat} {s:List UInt8} {fz:Bool}:FU aY off len (some (.row sz cC (fX s) fz))=if aY=cC∧off+len≤s.length then some (.str ((s.drop off).take len)) else none:=by
 simp only [FU,zX,zY,yO,yP,qM,if_true]
theorem HU {s:List UInt8} {K E:D→aa→Prop}:eV T (.conv .eX (.sl (fX s))) h K E=K (.str s) h:=by
 rw [pv]
 simp only [dB,dH,yO,yP,if_true,ask]
theorem De {K E:D→aa→Prop}:eV T (.conv .eX .aZ) h K E=K (.str []) h:=by
 rw [pv]
 simp [dB,dH,ask]
theorem cj {s:dU} {k:List Item} {X:Type} (F:X→List (Nat×D)) (H:X→aa) (μ:X→Nat) (I:X→Prop) (x0:X) (h1:I x0) (h2:TL (F x0) σ) (h3:(H x0).sub h)
  (h4:∀(x:X) (Q:Fr→aa→Prop),I x→(∀x' σ' h',I x'→TL (F x') σ'→(H x').sub h'→μ x'<μ x→Q σ' h')→vc T s (todo T K E (.lp Q::k)) E (FB (F x)) (H x)):vc T (.loop s) (todo T K E k) E σ h:=by
 refine af7 F H μ I x0 h1 h2 h3 fun x hx=>?_
 refine jz (fun e σ' h' kk=>?_) (fun _ _ _ kk=>kk) (h4 x (fun σ' h'=>∃x',I x'∧TL (F x') σ'∧(H x').sub h'∧μ x'<μ x) hx fun x' σ' h' a b c d=>⟨x',a,b,c,d⟩)
 cases e<;>exact kk
theorem CP {α:Type} {i j:Nat} {x:α} {o:Option α}:((if i=j then some x else o)=none)=(i≠j∧j≠i∧o=none):=by
 by_cases e:i=j
 ·subst e; simp
 ·have:j≠i:=fun x=>e x.symm
  simp [e,this]
theorem G8 {s:List UInt8}:(fX s=[])=(s=[]):=by simp [fX]
theorem tS {c:Prop} [Decidable c] {o:Option D} {K:D→aa→Prop}:ask (if c then none else o) K h=(¬c∧ask o K h):=by
 split<;>simp_all [ask]
def Im (E:D→aa→Prop):Fr→D→aa→Prop:=fun σ d h=>σ.defs=[]∧E d h
theorem MU {E:D→aa→Prop} {m:Nat} {env:Nat→D} {d:D} {h:aa}:Ed (Im E) m [] env d h=E d h:=propext ⟨fun k=>(k ⟨env,[]⟩ rfl fun _ _=>rfl).2,fun k σ e _=>⟨e,k⟩⟩
def leD (ds:List nJ):List (Nat×D)→Fr→Prop
 | [],σ=>σ.defs=ds
 | (j,d)::l,σ=>σ.env j=d∧leD ds l σ
theorem NQ {ds:List nJ} {σ:Fr}:leD ds [] σ=(σ.defs=ds):=rfl
theorem HZ {ds:List nJ} {j:Nat} {d:D} {l:List (Nat×D)} {σ:Fr}:leD ds ((j,d)::l) σ=(σ.env j=d∧leD ds l σ):=rfl
theorem LY {ds:List nJ}:∀{l:List (Nat×D)} {σ:Fr},leD ds l σ→(Du l ds).le σ
 | [],σ,h=>⟨fun _=>.inl rfl,h.symm⟩
 | (j,d)::l,σ,h=>by
  have ih:=LY h.2
  refine ⟨fun i=>?_,ih.2⟩
  simp only [Du,jx]
  by_cases e:i=j
  ·subst e; rw [if_pos rfl]; exact .inr h.1.symm
  ·rw [if_neg e]; exact ih.1 i
theorem Dv (l:List (Nat×D)) (ds:List nJ) (i:Nat):(Du l ds).env i=jx l i:=rfl
theorem AG (l:List (Nat×D)) (ds:List nJ):(Du l ds).defs=ds:=rfl
def V6 (T:bh) (K:Ex→Fr→aa→Prop) (E:Fr→D→aa→Prop) (k:List Item) (σ:Fr) (h:aa) (as:List D):D→Prop
 | .func (.func f) first cap=>todo T K E k .normal { σ with defs:=⟨.func f,cap,first++as⟩::σ.defs } h
 | _=>False
theorem DW {k:List Item} {f:iC} {as:List iC}:vc T (.defer f as) (todo T K E k) E σ h=V6 T K E k σ h (as.map σ.ev) (σ.ev f):=by
 show (match σ.ev f with | .func (.func f) first cap=>_ | _=>False)=_
 generalize σ.ev f=d
 cases d with
 | func fn first cap=>cases fn<;>rfl
 | _=>rfl
theorem wZ {k:List Item} {f:FuncId} {first cap as:List D}:V6 T K E k σ h as (.func (.func f) first cap)=todo T K E k .normal { σ with defs:=⟨.func f,cap,first++as⟩::σ.defs } h:=rfl
theorem Fr.Hc {σ:Fr} {ds:List nJ} {i:Nat}:({ σ with defs:=ds }:Fr).env i=σ.env i:=rfl
theorem Fr.CF {σ:Fr} {ds:List nJ}:({ σ with defs:=ds }:Fr).defs=ds:=rfl
theorem r_ {s:dU} {k:List Item} {X:Type} (ds:List nJ) (F:X→List (Nat×D)) (H:X→aa) (μ:X→Nat) (I:X→Prop) (x0:X) (h1:I x0) (h2:leD ds (F x0) σ) (h3:(H x0).sub h)
  (h4:∀(x:X) (Q:Fr→aa→Prop),I x→(∀x' σ' h',I x'→leD ds (F x') σ'→(H x').sub h'→μ x'<μ x→Q σ' h')→vc T s (todo T K E (.lp Q::k)) E (Du (F x) ds) (H x)):vc T (.loop s) (todo T K E k) E σ h:=by
 refine ⟨X,fun x=>Du (F x) ds,H,μ,I,x0,h1,LY h2,h3,fun x hx=>?_⟩
 refine jz (fun e σ' h' kk=>?_) (fun _ _ _ kk=>kk) (h4 x (fun σ' h'=>∃x',I x'∧leD ds (F x') σ'∧(H x').sub h'∧μ x'<μ x) hx fun x' σ' h' a b c d=>⟨x',a,b,c,d⟩)
 cases e with
 | normal=>obtain ⟨x',a,b,c⟩:=kk; exact ⟨x',a,LY b,c⟩
 | _=>exact kk
theorem aH.run [aT] {P:Program} (hT:T.ok P) {f:FuncId} {s:dU} {rs:List fO} {m:Nat} {pl:cm} {args:List D} {h:aa} {K:D→aa→Prop} (hs:bA P f pl=some (s,rs,m)) (hn:args.length≤m)
  (hv:∀(E:Fr→D→aa→Prop),vc T s (todo T (Mq rs K) E []) E (ij args) h):aH P f args h fun o h'=>∃d,o=.ret d∧K d h':=
 aH.ah9 hT hs hn (hv _)
theorem aV.run [aT] {P:Program} (hT:T.ok P) {f:FuncId} {s:dU} {rs:List fO} {m:Nat} {pl:cm} {args:List D} {d:D} (hs:bA P f pl=some (s,rs,m)) (hn:args.length≤m)
  (hv:∀(E:Fr→D→aa→Prop),vc T s (todo T (vW rs fun o _=>o=.ret d) E []) E (ij args) .emp):aV P f args d:=
 aH.nR hT hs hn (hv _)
def afg (rs:List fO) (K:D→aa→Prop) (e:Ex) (σ:Fr) (h:aa):Prop:=
 match e with
 | .exit _=>False
 | _=>σ.defs=[]∧∃ds,eI σ h rs=some ds∧∃h',h'.sub (fQ h ds)∧K (BF (ds.map (plain h))) h'
theorem IK {rs:List fO} {K:D→aa→Prop} {σ:Fr} {h:aa}:afg rs K .ret σ h=(σ.defs=[]∧∃ds,eI σ h rs=some ds∧∃h',h'.sub (fQ h ds)∧K (BF (ds.map (plain h))) h'):=rfl
theorem xa {rs:List fO} {K:D→aa→Prop} {σ:Fr} {h:aa}:afg rs K .normal σ h=(σ.defs=[]∧∃ds,eI σ h rs=some ds∧∃h',h'.sub (fQ h ds)∧K (BF (ds.map (plain h))) h'):=rfl
theorem aH.anA [aT] {P:Program} (hT:T.ok P) {f:FuncId} {s:dU} {rs:List fO} {m:Nat} {pl:cm} {args:List D} {h:aa} {K:D→aa→Prop} (hs:bA P f pl=some (s,rs,m)) (hn:args.length≤m)
  (hv:vc T s (todo T (afg rs K) (fun _ _ _=>False) []) (fun _ _ _=>False) (ij args) h):aH P f args h fun o h'=>∃d,o=.ret d∧K d h':=by
 refine aH.nR hT hs hn (jz (fun e σ h k=>?_) (fun ds d h k=>k.elim) hv)
 cases e with
 | exit i=>exact k
 | _=>obtain ⟨a,ds,b,h',c,d⟩:=k; exact ⟨a,ds,b,.inr ⟨h',c,_,rfl,d⟩⟩
theorem wY:plain h (.undef)=.undef:=rfl
theorem CX:hO h (.undef)=h:=rfl
theorem AW {b:Bool}:plain h (.bool b)=.bool b:=rfl
theorem Hn {b:Bool}:hO h (.bool b)=h:=rfl
theorem DM {k:IntKind} {n:Int}:plain h (.int k n)=.int k n:=rfl
theorem Nq {k:IntKind} {n:Int}:hO h (.int k n)=h:=rfl
theorem wT {k:FloatKind} {n:Nat}:plain h (.float k n)=.float k n:=rfl
theorem CS {k:FloatKind} {n:Nat}:hO h (.float k n)=h:=rfl
theorem DR {s:List UInt8}:plain h (.str s)=.str s:=rfl
theorem Nw {s:List UInt8}:hO h (.str s)=h:=rfl
theorem uw:plain h (.iR)=.iR:=rfl
theorem Ak:hO h (.iR)=h:=rfl
theorem DO {a b c:Nat}:plain h (.ptr a b c)=.ptr a b c:=rfl
theorem Nu {a b c:Nat}:hO h (.ptr a b c)=h:=rfl
theorem AX {a:List D} {b:Nat}:plain h (.cO a b)=.cO a b:=rfl
theorem Ho {a:List D} {b:Nat}:hO h (.cO a b)=h:=rfl
theorem AZ {a b c d:Nat}:plain h (.fT a b c d)=.fT a b c d:=rfl
theorem Hq {a b c d:Nat}:hO h (.fT a b c d)=h:=rfl
theorem Iy {xs:List (List D)}:plain h (.sl xs)=.sl xs:=rfl
theorem U8 {xs:List (List D)}:hO h (.sl xs)=h:=rfl
theorem DL {a b c:Nat}:plain h (.u7 a b c)=.u7 a b c:=rfl
theorem Np {a b c:Nat}:hO h (.u7 a b c)=h:=rfl
theorem wX {ds:List D}:plain h (.tuple ds)=.tuple ds:=rfl
theorem CW {ds:List D}:hO h (.tuple ds)=h:=rfl
theorem AY {fn:Fn} {a b:List D}:plain h (.func fn a b)=.func fn a b:=rfl
theorem Hp {fn:Fn} {a b:List D}:hO h (.func fn a b)=h:=rfl
theorem sU:plain h (.gf)=.gf:=rfl
theorem wz:hO h (.gf)=h:=rfl
theorem wU {t:TypeId} {d:D}:plain h (.iface t d)=.iface t d:=rfl
theorem CT {t:TypeId} {d:D}:hO h (.iface t d)=h:=rfl
theorem wV:plain h (.gX)=.gX:=rfl
theorem CU:hO h (.gX)=h:=rfl
theorem DN {a:Nat}:plain h (.map a)=.map a:=rfl
theorem Nr {a:Nat}:hO h (.map a)=h:=rfl
theorem uv:plain h (.kC)=.kC:=rfl
theorem Aj:hO h (.kC)=h:=rfl
theorem wW:plain h .aZ=.sl []:=rfl
theorem CV:hO h .aZ=h:=rfl
def plR (aY off len:Nat):Option cJ→D
 | some (.row sz cC xs fz)=>if aY=cC∧off+len≤xs.length then .sl ((xs.drop off).take len) else .undef
 | _=>.undef
theorem DQ {r aY off len:Nat}:plain h (.row r aY off len)=plR aY off len (h.f r):=by
 simp only [plain]
 generalize h.f r=o
 cases o with
 | none=>rfl
 | some o=>cases o<;>rfl
theorem N8 {aY off len sz cC:Nat} {xs:List (List D)} {fz:Bool}:plR aY off len (some (.row sz cC xs fz))=if aY=cC∧off+len≤xs.length then .sl ((xs.drop off).take len) else .undef:=rfl
def ahk (h:aa) (r:Nat):Option cJ→aa
 | some (.row sz aY xs _)=>h.set r (.row sz aY xs true)
 | _=>h
theorem Nv {r aY off len:Nat}:hO h (.row r aY off len)=ahk h r (h.f r):=by
 show fh h r=_
 unfold fh
 cases e:h.f r with
 | none=>rfl
 | some o=>cases o<;>rfl
theorem Hm {r sz aY:Nat} {xs:List (List D)} {fz:Bool}:ahk h r (some (.row sz aY xs fz))=h.set r (.row sz aY xs true):=rfl
theorem Hl:fQ h []=h:=rfl
theorem CQ {d:D} {ds:List D}:fQ h (d::ds)=fQ (hO h d) ds:=rfl
def Cd (h:aa):D→D
 | .aZ=>.sl []
 | .row r aY off len=>plR aY off len (h.f r)
 | d=>d
theorem AV {ds:List D}:plain h (.agg ds)=.agg (ds.map (Cd h)):=by
 rw [l7]
 congr 1
theorem DI:Cd h .aZ=.sl []:=rfl
theorem N6 {r aY off len:Nat}:Cd h (.row r aY off len)=plR aY off len (h.f r):=rfl
theorem DK:Cd h (.undef)=.undef:=rfl
theorem Iu {b:Bool}:Cd h (.bool b)=.bool b:=rfl
theorem N3 {k:IntKind} {n:Int}:Cd h (.int k n)=.int k n:=rfl
theorem DF {k:FloatKind} {n:Nat}:Cd h (.float k n)=.float k n:=rfl
theorem N7 {s:List UInt8}:Cd h (.str s)=.str s:=rfl
theorem AR:Cd h (.iR)=.iR:=rfl
theorem N5 {a b c:Nat}:Cd h (.ptr a b c)=.ptr a b c:=rfl
theorem Iv {a:List D} {b:Nat}:Cd h (.cO a b)=.cO a b:=rfl
theorem Ix {a b c d:Nat}:Cd h (.fT a b c d)=.fT a b c d:=rfl
theorem V5 {xs:List (List D)}:Cd h (.sl xs)=.sl xs:=rfl
theorem N2 {a b c:Nat}:Cd h (.u7 a b c)=.u7 a b c:=rfl
theorem DJ {ds:List D}:Cd h (.tuple ds)=.tuple ds:=rfl
theorem Iw {fn:Fn} {a b:List D}:Cd h (.func fn a b)=.func fn a b:=rfl
theorem wR:Cd h (.gf)=.gf:=rfl
theorem DG {t:TypeId} {d:D}:Cd h (.iface t d)=.iface t d:=rfl
theorem DH:Cd h (.gX)=.gX:=rfl
theorem N4 {a:Nat}:Cd h (.map a)=.map a:=rfl
theorem AQ:Cd h (.kC)=.kC:=rfl
def aa.Mx (S:List Nat) (h h':aa):Prop:=∀j o,j ∉ S→h.f j=some o→h'.f j=some o
theorem aa.fm {h h':aa} (s:aa.Mx [] h h'):h.sub h':=fun j o e=>s j o (by simp) e
theorem aa.bZ {S:List Nat} {h:aa}:aa.Mx S h h:=fun _ _ _ e=>e
theorem aa.dS {S:List Nat} {i:Nat} {o:cJ} {h h':aa} (e:h'.f i=some o) (s:aa.Mx (i::S) h h'):aa.Mx S (h.set i o) h':=fun j p hj hp=>by
 simp only [aa.b9] at hp
 split at hp
 ·rename_i e1; cases hp; rw [e1]; exact e
 ·rename_i e1; exact s j p (by simp [e1,hj]) hp
theorem aa.dT {S:List Nat} {i:Nat} {o:cJ} {h h':aa} (hi:i∈S∨h.f i=none) (s:aa.Mx S h h'):aa.Mx S h (h'.set i o):=fun j p hj hp=>by
 have:j≠i:=fun e=>by
  subst e
  rcases hi with hi | hi
  ·exact hj hi
  ·rw [hi] at hp; cases hp
 simp only [aa.b9,if_neg this]
 exact s j p hj hp
theorem aa.cz {S:List Nat} {h:aa}:aa.Mx S .emp h:=fun _ _ _ e=>by cases e
theorem Hu:hO h (.agg [])=h:=rfl
theorem Hw {r v o l:Nat} {ds:List D}:hO h (.agg (.row r v o l::ds))=hO (hO h (.row r v o l)) (.agg ds):=rfl
theorem Ap {ds:List D}:hO h (.agg (.undef::ds))=hO h (.agg ds):=rfl
theorem CY {b:Bool} {ds:List D}:hO h (.agg (.bool b::ds))=hO h (.agg ds):=rfl
theorem Hs {k:IntKind} {n:Int} {ds:List D}:hO h (.agg (.int k n::ds))=hO h (.agg ds):=rfl
theorem Al {k:FloatKind} {n:Nat} {ds:List D}:hO h (.agg (.float k n::ds))=hO h (.agg ds):=rfl
theorem Hx {s:List UInt8} {ds:List D}:hO h (.agg (.str s::ds))=hO h (.agg ds):=rfl
theorem wB {ds:List D}:hO h (.agg (.iR::ds))=hO h (.agg ds):=rfl
theorem Hv {a b c:Nat} {ds:List D}:hO h (.agg (.ptr a b c::ds))=hO h (.agg ds):=rfl
theorem CZ {a:List D} {b:Nat} {ds:List D}:hO h (.agg (.cO a b::ds))=hO h (.agg ds):=rfl
theorem C1 {a b c d:Nat} {ds:List D}:hO h (.agg (.fT a b c d::ds))=hO h (.agg ds):=rfl
theorem Ao {ds:List D}:hO h (.agg (.aZ::ds))=hO h (.agg ds):=rfl
theorem Nx {xs:List (List D)} {ds:List D}:hO h (.agg (.sl xs::ds))=hO h (.agg ds):=rfl
theorem Hr {a b c:Nat} {ds:List D}:hO h (.agg (.u7 a b c::ds))=hO h (.agg ds):=rfl
theorem C0 {fn:Fn} {a b:List D} {ds:List D}:hO h (.agg (.func fn a b::ds))=hO h (.agg ds):=rfl
theorem ud {ds:List D}:hO h (.agg (.gf::ds))=hO h (.agg ds):=rfl
theorem Am {t:TypeId} {d:D} {ds:List D}:hO h (.agg (.iface t d::ds))=hO h (.agg ds):=rfl
theorem An {ds:List D}:hO h (.agg (.gX::ds))=hO h (.agg ds):=rfl
theorem Ht {a:Nat} {ds:List D}:hO h (.agg (.map a::ds))=hO h (.agg ds):=rfl
theorem wA {ds:List D}:hO h (.agg (.kC::ds))=hO h (.agg ds):=rfl
theorem Df {x:Int} {K E:D→aa→Prop}:eV T (.conv .eX (.sl [[.int .u8 x]])) h K E=K (.str [UInt8.ofNat x.toNat]) h:=by
 rw [pv]
 simp [dB,dH,isByte,byteOf,ask]
end Go.Proofs.YtpklkpkfgmoghaaGreatDoor.Zz
namespace Go.Proofs.YtpklkpkfgmoghaaGreatDoor.Zz
open Go.RowKit
def du (w:World):cT:={ jv:=fun b=>b<w.heap.size,loc:=fun _=>none }
theorem Z1 [aT] (w:World) (hg:iX (du w) w):Inv (du w) .emp w:=
 ⟨fun b h=>h,fun i p h=>(by cases h),⟨0,fun _ _=>rfl⟩,fun i o h=>(by cases h),fun i j oi oj pi pj b h=>(by cases h),hg⟩
theorem aep [aT] {P:Program} {f:FuncId} {args:List D} (c:aV P f args (.bool true)) {vs:Array Value} {w:World} (hg:iX (du w) w) (hr:cn (du w) w vs.toList args):
  Calls P f vs w fun e w'=>e=.returned (.bool true)∧Below w.heap.size w w':=
 (c.2 (du w) w vs (Z1 w hg) hr).mono fun e w' ⟨o,h',κ',e1,r,i,ev⟩=>by
  subst e1
  cases r with
  | ret r=>
   cases r
   refine ⟨rfl,ev.os,ev.tape,ev.output,ev.size,fun k hk=>ev.blocks k hk fun ho=>?_⟩
   obtain ⟨id,o,p,h,_⟩:=ho
   simp at h
theorem Mo {κ:cT} {w:World} {s:ByteArray} (h:s.size≤maxLen):cL κ w (.string s) (.str s.data.toList):=by
 have:=cL.str (κ:=κ) (w:=w) s.data.toList (by
  have:s.data.toList.length=s.size:=by simp
  rw [this]
  have h2:maxLen≤9223372036854775807:=by decide
  omega)
 simpa using this
theorem M6 {w:World} {b o:Nat} {v:Value} (h:w.cell? ⟨b,o,none⟩=some v):b<w.heap.size:=by
 simp only [World.cell?] at h
 cases e:w.heap[b]? with
 | none=>simp [e] at h
 | some x=>exact (Array.getElem?_eq_some_iff.1 e).1
theorem Bb {w:World} {a:Addr} {len cap:Nat} (f:Nat→Value) (g:Nat→D) (hl:len≤cap) (hm:cap≤maxLen) (hc:∀i,i<len→w.cell? (a.add i)=some (f i)) (hr:∀i,i<len→cL (du w) w (f i) (g i)):
  cL (du w) w (.slice (some a) len cap) (.sl ((List.range len).map fun i=>[g i])):=by
 by_cases h0:len=0
 ·subst h0; exact .slnil (fun h=>by cases h)
 ·obtain ⟨b,o,sp⟩:=a
  have hs:sp=none:=by simpa [Addr.add] using World.cell?_spot (hc 0 (by omega))
  subst hs
  have h2:maxLen≤9223372036854775807:=by decide
  have get:∀{i:Nat} {x:List D} {j:Nat} {d:D},((List.range len).map fun i=>[g i])[i]? =some x→x[j]? =some d→i<len∧j=0∧d=g i:=fun {i x j d} h1 h3=>by
   rw [List.getElem?_map] at h1
   by_cases hi:i<len
   ·rw [List.getElem?_range hi] at h1
    simp only [Option.map_some,Option.some.injEq] at h1
    subst h1
    cases j with
    | zero=>simp at h3; exact ⟨hi,rfl,h3.symm⟩
    | succ j=>simp at h3
   ·rw [List.getElem?_eq_none (by simp; omega)] at h1; cases h1
  have mh:∀i,i<len→w.cell? ⟨b,o+i,none⟩=some (f i):=fun i hi=>by
   have:=hc i hi
   unfold Addr.add at this
   split at this
   ·rename_i e; subst e; simpa using this
   ·simpa using this
  refine cL.I3 (sz:=1) (by simp) (fun i _=>f i) (by simp; omega) (by simp; omega) (by simp) (fun i x j d h1 h3=>?_) (fun i x j d h1 h3=>?_)
  ·obtain ⟨hi,rfl,rfl⟩:=get h1 h3
   have:=mh i hi
   exact ⟨M6 this,by simpa using this⟩
  ·obtain ⟨hi,rfl,rfl⟩:=get h1 h3
   exact hr i hi
section
variable {H:Type} {enc:TypeId×Value→H} {P:Program} {w:World} {spare:Nat→Bool} {held:Bool}
theorem VB {t e:TypeId} {k:IntKind} {a:Option Addr} {len cap:Nat} {d:DataW H} {ps:List MemPlace} (ht:P.underlying t=some (.slice e)) (he:P.underlying e=some (.int k)) (hc:P.cellsOf e=1)
  (h:DataW.Trod enc P w 0 spare held t (.slice a len cap) d ps):∃l:List Int,(∀n∈l,(Lit.int k n).wf=true)∧cL (du w) w (.slice a len cap) (.sl (l.map fun n=>[.int k n])):=by
 obtain ⟨fuel,hf⟩:=h
 rcases Go.ChangeShapes.open_ints ht he hc hf with ⟨KK,_⟩ | ⟨x,l,c,zs,KK,_,hl,hm,hz,_,mh,hwz⟩
 ·simp [Value.cells] at KK
  obtain ⟨rfl,rfl,rfl⟩:=KK
  exact ⟨[],by simp,.slnil (fun _=>rfl)⟩
 ·simp [Value.cells] at KK
  obtain ⟨rfl,rfl,rfl⟩:=KK
  have hlz:len≤zs.length:=by rw [hz]; split<;>omega
  refine ⟨(List.range len).map fun i=>zs.getD i 0,?_,?_⟩
  ·intro n hn
   obtain ⟨i,hi,rfl⟩:=List.mem_map.1 hn
   have hi:=List.mem_range.1 hi
   apply hwz
   rw [List.getD_eq_getElem?_getD,List.getElem?_eq_getElem (by omega)]
   exact List.getElem_mem _
  ·rw [List.map_map]
   exact Bb (fun i=>.int k (zs.getD i 0)) (fun i=>.int k (zs.getD i 0)) hl hm (fun i hi=>mh i (by omega)) (fun i hi=>.int k _)
theorem akc {t e:TypeId} {a:Option Addr} {len cap:Nat} {d:DataW H} {ps:List MemPlace} (ht:P.underlying t=some (.slice e)) (he:P.underlying e=some .string) (hc:P.cellsOf e=1)
  (h:DataW.Trod enc P w 0 spare held t (.slice a len cap) d ps):∃l:List (List UInt8),cL (du w) w (.slice a len cap) (.sl (l.map fun s=>[.str s])):=by
 obtain ⟨fuel,hf⟩:=h
 rcases Go.Deep.open_strs ht he hc hf with ⟨KK,_⟩ | ⟨x,l,c,m,Sx,KK,_,hl,hm,hz,_,mh⟩
 ·simp [Value.cells] at KK
  obtain ⟨rfl,rfl,rfl⟩:=KK
  exact ⟨[],.slnil (fun _=>rfl)⟩
 ·simp [Value.cells] at KK
  obtain ⟨rfl,rfl,rfl⟩:=KK
  have hlz:len≤m:=by rw [hz]; split<;>omega
  refine ⟨(List.range len).map fun i=>(Sx i).data.toList,?_⟩
  ·rw [List.map_map]
   exact Bb (fun i=>.string (Sx i)) (fun i=>.str (Sx i).data.toList) hl hm (fun i hi=>(mh i (by omega)).1) (fun i hi=>Mo (mh i (by omega)).2)
theorem aix {κ:cT} {t:TypeId} {f0 f1:Field} {k0 k1:IntKind} {cs:Array Value} {d:DataW H} {ps:List MemPlace} (ht:P.underlying t=some (.struct #[f0,f1])) (h0:P.underlying f0.type=some (.int k0)) (h1:P.underlying f1.type=some (.int k1))
  (hc:P.cellsOf t=2) (c0:P.cellsOf f0.type=1) (c1:P.cellsOf f1.type=1) (o0:f0.offset=0) (o1:f1.offset=1)
  (h:DataW.Trod enc P w 0 spare held t (.agg cs) d ps):∃n m:Int,(Lit.int k0 n).wf=true∧(Lit.int k1 m).wf=true∧cL κ w (.agg cs) (.agg [.int k0 n,.int k1 m]):=by
 obtain ⟨fuel,hf⟩:=h
 obtain ⟨y0,y1,n,_,hl,g0,g1⟩:=Go.ChangeShapes.trod_struct2 ht hf
 rw [o0,c0] at g0
 rw [o1,c1] at g1
 rw [hc] at hl
 obtain ⟨a,e0,_,w0⟩:=DataW.trod_int h0 g0
 obtain ⟨b,e1,_,w1⟩:=DataW.trod_int h1 g1
 simp only [Value.cells] at hl e0 e1
 have KK:cs= #[.int k0 a,.int k1 b]:=by
  obtain ⟨l⟩:=cs
  match l,hl with
  | [u,v],_=>
   simp at e0 e1
   rw [e0,e1]
 subst KK
 refine ⟨a,b,w0,w1,.agg rfl fun i d hd=>?_⟩
 match i,hd with
 | 0,hd=>simp at hd; subst hd; exact .int _ _
 | 1,hd=>simp at hd; subst hd; exact .int _ _
end
end Go.Proofs.YtpklkpkfgmoghaaGreatDoor.Zz
namespace Go.Proofs.YtpklkpkfgmoghaaGreatDoor.Zz
open Go.RowKit
section
variable {P:Program} {w:World}
theorem HY:∀{laid:List (String×DataW Unit)} {ps:List MemPlace},DataW.LaidVars P w laid ps→∀{i:Nat} {n:String} {d:DataW Unit},laid[i]? =some (n,d)→
  ∃g t cs fuel p,P.globalNamed n=some g∧(P.globals[g]?).map (·.type)=some t∧w.var? P n=some cs∧DataW.trod (fun _=>()) P w 0 (fun _=>true) false fuel t cs.toList=some (d,p)∧∀x∈MemPlace.row ⟨g,0,none⟩ cs.size,x∈ps
 | [],ps,_,i,n,d,e=>by simp at e
 | (m,c)::r,ps,h,i,n,d,e=>by
  obtain ⟨g,t,cs,fuel,p,q,h1,h2,h3,h4,h5,h6⟩:=h
  cases i with
  | zero=>
   cases e
   exact ⟨g,t,cs,fuel,p,h1,h2,h3,h4,fun x hx=>by rw [h6]; simp [hx]⟩
  | succ i=>
   obtain ⟨g',t',BR,ahm,p',k1,k2,k3,k4,k5⟩:=HY h5 (i:=i) (by simpa using e)
   exact ⟨g',t',BR,ahm,p',k1,k2,k3,k4,fun x hx=>by rw [h6]; simp [k5 x hx]⟩
theorem SE {κ:cT} {laid:List (String×DataW Unit)} (h:laidMet P laid w) {i:Nat} {n:String} {g N:Nat} {t e:TypeId} {k:IntKind} (zs:List Int) (hm:laid[i]? =some (n,.agg (zs.map fun z=>.lit (.int k z))))
  (hg:P.globalNamed n=some g) (ht:(P.globals[g]?).map (·.type)=some t) (hu:P.underlying t=some (.array N e)) (he:P.underlying e=some (.int k)) (hc:P.cellsOf t=N) (ce:P.cellsOf e=1) (h0:0<N):
  ∃(cs:Array Value) (ty:TypeId),w.heap[g]? =some (.cells cs ty (0,0))∧cs.size=zs.length∧∀(j:Nat) (d:D),(zs.map fun z=>D.int k z)[j]? =some d→∃v,cs[j]? =some v∧cL κ w v d:=by
 obtain ⟨ps,hl,_,mh⟩:=h
 obtain ⟨g',t',cs,fuel,p,k1,k2,k3,k4,k5⟩:=HY hl hm
 rw [hg] at k1
 cases k1
 rw [ht] at k2
 cases k2
 obtain ⟨xs,m,_,hx,hs,hn,hat⟩:=DataW.trod_array hu k4
 rw [ce] at hat
 have KK:cs.size=N:=by simpa [hc] using hs
 have hzx:zs.map (fun z=>DataW.lit (H:=Unit) (.int k z))=xs.map (·.1):=by injection hx with h1 h2; injection h1
 have YH:zs.length=N:=by have:=congrArg List.length hzx; simp at this; omega
 obtain ⟨c,ty,hh⟩:=(mh g 0 (k5 _ (by
  simp only [MemPlace.row,List.mem_map,List.mem_range]
  exact ⟨0,by omega,rfl⟩))).1
 have mg:c=cs:=by
  simp only [World.var?,hg,Option.bind_some,hh] at k3
  exact Option.some.inj k3
 subst mg
 refine ⟨c,ty,hh,by omega,fun j d hd=>?_⟩
 have hj:j<N:=by have:=(List.getElem?_eq_some_iff.1 hd).1; simp at this; omega
 have g1:=hat j hj
 have e1:(c.toList.drop (j*1)).take 1=[c[j]'(by omega)]:=by
  rw [Nat.mul_one,List.drop_eq_getElem_cons (by simp; omega)]
  simp
 rw [e1,List.getElem?_eq_getElem (by omega)] at g1
 obtain ⟨a,e2,e3,_⟩:=DataW.trod_int he g1
 have e4:c[j]'(by omega)=.int k a:=by simpa using e2
 have e5:zs[j]'(by omega)=a:=by
  have:=congrArg (fun l:List (DataW Unit)=>l[j]?) hzx
  simp only [List.getElem?_map,List.getElem?_eq_getElem (show j<zs.length by omega),List.getElem?_eq_getElem (show j<xs.length by omega),Option.map_some,Option.some.injEq] at this
  rw [e3] at this
  simpa using this
 have e6:d=.int k a:=by
  simp only [List.getElem?_map,List.getElem?_eq_getElem (show j<zs.length by omega),Option.map_some,Option.some.injEq,e5] at hd
  exact hd.symm
 refine ⟨.int k a,by rw [Array.getElem?_eq_getElem (by omega),e4],?_⟩
 rw [e6]
 exact .int k a
end
section
variable {H:Type} {enc:TypeId×Value→H}
theorem FK {a:Assume} {C:Checked} {os:Os} {f:FuncId} {fn:Func} {s:ChangeSpec} {conds:List PathCond} {apart fresh handsOn again:Bool} {X:World→Array Value→Prop}
  (hX:∀(w w':World) (args:Array Value),w.heap=w'.heap→X w args→X w' args)
  (own:ownKnob C.prog.godebug=none) (started:os.Started) (aez:C.prog.inits.idxOf? f=none) (hfn:C.prog.funcs[f]? =some fn)
  (witness:∃(w:World) (tape:Tape) (i:Input),w.os=os∧(w.forCall tape i).Shaped C.prog∧i.vars=[]∧Input.okWide C.prog (w.forCall tape i) .any w.heap.size f i∧
   ((s.pre enc C.prog fn conds apart (w.forCall tape i).memory i.args∧X (w.forCall tape i).memory i.args)∧sizedMet enc C.prog fn (OpenSpec.ofChange s) apart (w.forCall tape i).memory i.args)∧a.holds C.prog (lone (Frame.enter C.prog f i.args .normal) [] (w.forCall tape i)))
  (UJ:∀(W:World) (base:Nat) (args:Array Value) (ds gs:List (DataW H)) (before:List MemPlace),
   (∀(j:Nat) t v,fn.params[j]? =some t→args[j]? =some v→Value.okWide C.prog W .any base t v)→
   DataW.Whole enc C.prog fn.params.toList s.vars apart W args.toList ds gs before→
   conds.all (PathCond.test C.prog ⟨fn.params.toList,ds,s.plain.varTypes C.prog,gs⟩)=true→X W args→W.ShapedOpen C.prog→
   Calls C.prog f args W fun e W'=>∃v,e=.returned v∧s.post enc C.prog fn apart fresh handsOn again W args v W'):
  ReturnsInHanded a C os f .any (fun w args=>(s.pre enc C.prog fn conds apart w args∧X w args)∧sizedMet enc C.prog fn (OpenSpec.ofChange s) apart w args) (s.post enc C.prog fn apart fresh handsOn again):=by
 refine returnsInHanded_of_calls own started aez witness ?_
 intro w tape i _ hsh _ B8 Vq _
 obtain ⟨_,_,_,fn',alv,_,_,_,_,vK⟩:=B8
 have e:fn'=fn:=Option.some.inj (alv.symm.trans hfn)
 subst e
 obtain ⟨⟨⟨ds,gs,before,hw,hc⟩,hx⟩,hz⟩:=Vq
 have hw':=DataW.Whole.of_heap (w':=w.forCall tape i) (by rfl) hw
 refine (UJ (w.forCall tape i) w.heap.size i.args ds gs before vK hw' hc (hX _ _ _ (by rfl) hx) hsh).mono fun e W' ⟨v,he,hp⟩=>?_
 subst he
 exact ChangeSpec.post_blind hp
end
def cellsOf:DataW Unit→List Value
 | .agg xs=>xs.flatMap fun
  | .lit (.int k n)=>[.int k n]
  | .agg ys=>ys.flatMap fun
   | .lit (.int k n)=>[.int k n]
   | _=>[]
  | _=>[]
 | _=>[]
def U6 (h:Array Obj):List (Nat×Array Value)→Array Obj
 | []=>h
 | (g,cs)::r=>U6 (h.modify g fun
   | .cells _ t fz=>.cells cs t fz
   | o=>o) r
theorem aV.toA [aT] {P:Program} {f:FuncId} {args:List D} {d:D} (hv:aV P f args d) (h:aa):aH P f args h fun o h'=>o=.ret d∧h'=h:=by
 refine ⟨hv.1,fun κ w vs hi hr=>?_⟩
 have sub:=aa.mV h
 refine (hv.2 κ w vs (hi.sub sub) hr).mono fun e w' ⟨o,h',jt,a0,a2,a3,a4⟩=>?_
 subst a0
 obtain ⟨f1,f2,_⟩:=hi.frame sub a3 a4
 have WM:h.sub (h'.union (h.minus .emp)):=fun id o ho=>by
  obtain ⟨p,hp,_⟩:=hi.obj id o ho
  have:=a4.ids id p hp rfl
  simpa [aa.union,aa.minus,this] using ho
 exact ⟨.ret d,h,jt,⟨rfl,rfl⟩,a2,f1.sub WM,{ f2 with own:=fun b hb ho=>f2.own b hb (ho.sub WM),ids:=fun id p hp hn=>hn }⟩
end Go.Proofs.YtpklkpkfgmoghaaGreatDoor.Zz
