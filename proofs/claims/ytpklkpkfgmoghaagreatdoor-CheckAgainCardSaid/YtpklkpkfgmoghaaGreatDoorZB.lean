/- Values as plain data, an abstract heap, and how they stand to the model's values and worlds. -/
import Derived.CallsIn
import Derived.Laws.Sem
import Derived.Laws.World
import Derived.Laws.Strings
import Derived.Laws.AppendOwn
set_option linter.unnecessarySimpa false
set_option linter.unusedVariables false
set_option linter.unusedSimpArgs false
namespace Go.Proofs.YtpklkpkfgmoghaaGreatDoor.Zz
inductive D where
 | undef
 | bool (b:Bool)
 | int (k:IntKind) (n:Int)
 | float (k:FloatKind) (bits:Nat)
 | str (s:List UInt8)
 | iR
 | ptr (id aY off:Nat)
 | cO (cells:List D) (off:Nat)
 | fT (r aY i f:Nat)
 | aZ
 | sl (xs:List (List D))
 | row (r aY off len:Nat)
 | u7 (id off len:Nat)
 | agg (ds:List D)
 | tuple (ds:List D)
 | func (fn:Fn) (first cap:List D)
 | gf
 | iface (t:TypeId) (d:D)
 | gX
 | map (id:Nat)
 | kC
 | iter (id:Nat)
instance:Inhabited D:=⟨.undef⟩
structure Old where
 aY:Nat
 blk:Nat
 cap:Nat
 sz:Nat
 len:Nat
structure Place where
 blk:Nat
 base:Nat
 aY:Nat
 cap:Nat
 sz:Nat
 rc:Option Loop
 du:List Old:=[]
 ng:∀e∈du,e.aY<aY∧e.sz=sz:=by simp
def Place.new (blk base aY cap sz:Nat) (rc:Option Loop):Place:={ blk,base,aY,cap,sz,rc }
inductive Ex where
 | normal | ret | exit (id:Nat)
def Ex.code:Ex→Option Code
 | .normal=>none
 | .ret=>some .ret
 | .exit id=>some (.exit id)
inductive TN where
 | busy | done (e:Ex)
def TN.on (R:Loop):TN→Loop
 | .busy=>{ R with state:=.busy,pending:=none }
 | .done e=>{ R with state:=if e.code.isNone then .ready else .done,pending:=e.code }
inductive cJ where
 | cells (ds:List D)
 | row (sz aY:Nat) (xs:List (List D)) (fz:Bool)
 | dz (sz aY:Nat) (xs:List (List D)) (du:List (Nat×Nat))
 | map (es:List (D×D))
 | lH (s:List UInt8) (pos:Nat)
 | lp (st:TN)
 | dfr
 | other
def cJ.live:cJ→Bool
 | .row _ _ _ fz=> !fz
 | _=>true
structure aa where
 f:Nat→Option cJ
def aa.emp:aa:=⟨fun _=>.none⟩
def aa.set (h:aa) (id:Nat) (o:cJ):aa:=⟨fun i=>if i=id then some o else h.f i⟩
def aa.del (h:aa) (id:Nat):aa:=⟨fun i=>if i=id then .none else h.f i⟩
@[simp] theorem aa.UZ (i:Nat):aa.emp.f i=.none:=rfl
@[simp] theorem aa.b9 (h:aa) (id i:Nat) (o:cJ):(h.set id o).f i=if i=id then some o else h.f i:=rfl
@[simp] theorem aa.abr (h:aa) (id i:Nat):(h.del id).f i=if i=id then .none else h.f i:=rfl
theorem aa.ext {h k:aa} (e:∀i,h.f i=k.f i):h=k:=by
 cases h; cases k; congr; exact funext e
theorem aa.set_set (h:aa) (id:Nat) (o p:cJ):(h.set id o).set id p=h.set id p:=
 aa.ext fun i=>by simp only [aa.b9]; split<;>rfl
structure cT where
 jv:Nat→Prop
 loc:Nat→Option Place
inductive cL (κ:cT) (w:World):Value→D→Prop
 | undef (v:Value):cL κ w v .undef
 | bool (b:Bool):cL κ w (.bool b) (.bool b)
 | int (k:IntKind) (n:Int):cL κ w (.int k n) (.int k n)
 | float (k:FloatKind) (n:Nat):cL κ w (.float k n) (.float k n)
 | str (s:List UInt8) (h:s.length≤9223372036854775807):cL κ w (.string ⟨s.toArray⟩) (.str s)
 | iR:cL κ w (.pointer none) .iR
 | ptr {id aY off:Nat} {p:Place} {a:Addr} (hl:κ.loc id=some p) (hv:aY≤p.aY) (ha:p.aY=aY→a=⟨p.blk,p.base+off,none⟩):cL κ w (.pointer (some a)) (.ptr id aY off)
 | cO {b base off:Nat} {cells:List D} (f:Nat→Value) (hb:κ.jv b) (hc:∀j d,cells[j]? =some d→w.cell? ⟨b,base+j,none⟩=some (f j)) (hr:∀j d,cells[j]? =some d→cL κ w (f j) d):
   cL κ w (.pointer (some ⟨b,base+off,none⟩)) (.cO cells off)
 | fT {r aY i f:Nat} {p:Place} {a:Addr} (hl:κ.loc r=some p) (hv:aY≤p.aY) (ha:p.aY=aY→a=⟨p.blk,p.base+i*p.sz+f,none⟩):cL κ w (.pointer (some a)) (.fT r aY i f)
 | aZ:cL κ w (.slice none 0 0) .aZ
 | slnil {ba:Option Addr} {cap:Nat} (hb:ba=.none→cap=0):cL κ w (.slice ba 0 cap) (.sl [])
 | sl {b o sz cap:Nat} {xs:List (List D)} (f:Nat→Nat→Value) (hn:xs.length≤9223372036854775807) (fu:xs.length≤cap) (qd:∀x∈xs,x.length=sz)
   (hc:∀i x j d,xs[i]? =some x→x[j]? =some d→κ.jv b∧w.cell? ⟨b,o+i*sz+j,none⟩=some (f i j)) (hr:∀i x j d,xs[i]? =some x→x[j]? =some d→cL κ w (f i j) d):
   cL κ w (.slice (some ⟨b,o,none⟩) xs.length cap) (.sl xs)
 | row {r aY off len cap:Nat} {p:Place} {a:Addr} (hl:κ.loc r=some p) (hv:aY≤p.aY) (hn:len≤9223372036854775807) (fu:len≤cap)
   (ha:p.aY=aY→cap=0∨(a=⟨p.blk,p.base+off*p.sz,none⟩∧off+cap=p.cap)) (hb:∀e∈p.du,e.aY=aY→cap=0∨(a=⟨e.blk,off*e.sz,none⟩∧off+cap=e.cap)):cL κ w (.slice (some a) len cap) (.row r aY off len)
 | u7 {id off len cap:Nat} {p:Place} {a:Addr} (hl:κ.loc id=some p) (hv:1≤p.aY) (hn:len≤9223372036854775807) (fu:len≤cap)
   (ha:p.aY=1→cap=0∨a=⟨p.blk,p.base+off,none⟩):cL κ w (.slice (some a) len cap) (.u7 id off len)
 | agg {cs:Array Value} {ds:List D} (hs:cs.size=ds.length) (hr:∀i d,ds[i]? =some d→cL κ w (cs.getD i (.tuple #[])) d):cL κ w (.agg cs) (.agg ds)
 | tuple {cs:Array Value} {ds:List D} (hs:cs.size=ds.length) (hr:∀i d,ds[i]? =some d→cL κ w (cs.getD i (.tuple #[])) d):cL κ w (.tuple cs) (.tuple ds)
 | func {fn:Fn} {v1 v2:Array Value} {d1 d2:List D} (rX:v1.size=d1.length) (ZE:v2.size=d2.length) (hr1:∀i d,d1[i]? =some d→cL κ w (v1.getD i (.tuple #[])) d)
   (hr2:∀i d,d2[i]? =some d→cL κ w (v2.getD i (.tuple #[])) d):cL κ w (.func fn v1 v2) (.func fn d1 d2)
 | gf:cL κ w .nilFunc .gf
 | iface {t:TypeId} {v:Value} {d:D} (hr:cL κ w v d):cL κ w (.iface t v) (.iface t d)
 | gX:cL κ w .nilIface .gX
 | map {id:Nat} {p:Place} (hl:κ.loc id=some p) (hv:p.aY=1):cL κ w (.map (some p.blk)) (.map id)
 | kC:cL κ w (.map none) .kC
 | iter {id:Nat} {p:Place} (hl:κ.loc id=some p) (hv:p.aY=1):cL κ w (.pointer (some ⟨p.blk,0,none⟩)) (.iter id)
theorem cL.I3 {κ:cT} {w:World} {b o sz cap len:Nat} {xs:List (List D)} (e:len=xs.length) (f:Nat→Nat→Value) (hn:xs.length≤9223372036854775807) (fu:xs.length≤cap) (qd:∀x∈xs,x.length=sz)
   (hc:∀(i:Nat) (x:List D) (j:Nat) (d:D),xs[i]? =some x→x[j]? =some d→κ.jv b∧w.cell? ⟨b,o+i*sz+j,none⟩=some (f i j)) (hr:∀(i:Nat) (x:List D) (j:Nat) (d:D),xs[i]? =some x→x[j]? =some d→cL κ w (f i j) d):
   cL κ w (.slice (some ⟨b,o,none⟩) len cap) (.sl xs):=by subst e; exact .sl f hn fu qd hc hr
structure tN (p p':Place):Prop where
 one:p.aY=1→p'=p
 lt:∀e∈p'.du,e.aY<p.aY→e∈p.du
 eq:∀e∈p'.du,e.aY=p.aY→p'.aY≠p.aY→p.base=0∧e.blk=p.blk∧e.cap=p.cap∧e.sz=p.sz
theorem tN.refl (p:Place):tN p p:=⟨fun _=>rfl,fun _ h _=>h,fun _ _ _ h=>absurd rfl h⟩
theorem tN.VT {p p':Place} (h:p.aY≠1) (e:p'.du=[]):tN p p':=
 ⟨fun x=>absurd x h,fun x hx=>by (rw [e] at hx; cases hx),fun x hx=>by (rw [e] at hx; cases hx)⟩
theorem tN.trans {p p1 p2:Place} (a:tN p p1) (b:tN p1 p2) (l1:p.aY≤p1.aY) (s1:p1.aY=p.aY→p1=p):tN p p2:=by
 refine ⟨fun e=>?_,fun e he hv=>a.lt e (b.lt e he (Nat.lt_of_lt_of_le hv l1)) hv,fun e he hv hn=>?_⟩
 ·have:=a.one e; subst this; exact b.one e
 ·by_cases c:p1.aY=p.aY
  ·have:=s1 c; subst this; exact b.eq e he hv hn
  ·exact a.eq e (b.lt e he (by omega)) hv c
structure Le (κ:cT) (w:World) (κ':cT) (w':World):Prop where
 jv:∀b,κ.jv b→κ'.jv b∧w'.heap[b]? =w.heap[b]?
 loc:∀id p,κ.loc id=some p→∃p',κ'.loc id=some p'∧p.aY≤p'.aY∧(p'.aY=p.aY→p'=p)∧tN p p'
theorem Le.refl (κ:cT) (w:World):Le κ w κ w:=⟨fun _ h=>⟨h,rfl⟩,fun _ p h=>⟨p,h,Nat.le_refl _,fun _=>rfl,tN.refl p⟩⟩
theorem cL.mono {κ κ':cT} {w w':World} {v:Value} {d:D} (h:cL κ w v d) (le:Le κ w κ' w'):cL κ' w' v d:=by
 induction h with
 | undef v=>exact .undef v
 | bool b=>exact .bool b
 | int k n=>exact .int k n
 | float k n=>exact .float k n
 | str s h=>exact .str s h
 | iR=>exact .iR
 | ptr hl hv ha=>
  obtain ⟨p',h1,h2,h3,_⟩:=le.loc _ _ hl
  exact .ptr h1 (Nat.le_trans hv h2) fun e=>by
   have e':p'.aY=_:=Nat.le_antisymm (e▸hv) h2
   rw [h3 e']; exact ha (by rw [←e',e])
 | cO f hb hc hr ih=>
  exact .cO f (le.jv _ hb).1 (fun j d hj=>by rw [World.cell?_of_block (w:=w) (le.jv _ hb).2]; exact hc j d hj) ih
 | fT hl hv ha=>
  obtain ⟨p',h1,h2,h3,_⟩:=le.loc _ _ hl
  exact .fT h1 (Nat.le_trans hv h2) fun e=>by
   have e':p'.aY=_:=Nat.le_antisymm (e▸hv) h2
   rw [h3 e']; exact ha (by rw [←e',e])
 | aZ=>exact .aZ
 | slnil hb=>exact .slnil hb
 | sl f hn fu qd hc hr ih=>
  exact .sl f hn fu qd (fun i x j d hi hj=>by
   obtain ⟨h1,h2⟩:=hc i x j d hi hj
   exact ⟨(le.jv _ h1).1,by rw [World.cell?_of_block (w:=w) (le.jv _ h1).2]; exact h2⟩) ih
 | row hl hv hn fu ha hb=>
  rename_i r aY off len cap p a
  obtain ⟨p',h1,h2,h3,h4⟩:=le.loc _ _ hl
  refine .row h1 (Nat.le_trans hv h2) hn fu (fun e=>?_) fun e he hev=>?_
  ·have e':p'.aY=_:=Nat.le_antisymm (e▸hv) h2
   rw [h3 e']; exact ha (by rw [←e',e])
  ·by_cases c:aY<p.aY
   ·exact hb e (h4.lt e he (by omega)) hev
   ·have hpv:p.aY=aY:=by omega
    by_cases c2:p'.aY=p.aY
    ·have:=h3 c2; subst this; exact hb e he hev
    ·obtain ⟨q1,q2,q3,q4⟩:=h4.eq e he (by omega) c2
     rcases ha hpv with k | ⟨k1,k2⟩
     ·exact .inl k
     ·exact .inr ⟨by rw [k1,q1,q2,q4,Nat.zero_add],by rw [q3]; exact k2⟩
 | u7 hl hv hn fu ha=>
  obtain ⟨p',h1,h2,h3,_⟩:=le.loc _ _ hl
  exact .u7 h1 (Nat.le_trans hv h2) hn fu fun e=>by
   have e':p'.aY=_:=Nat.le_antisymm (e▸hv) h2
   rw [h3 e']; exact ha (by rw [←e',e])
 | agg hs hr ih=>exact .agg hs ih
 | tuple hs hr ih=>exact .tuple hs ih
 | func rX ZE hr1 hr2 ih1 ih2=>exact .func rX ZE ih1 ih2
 | gf=>exact .gf
 | iface hr ih=>exact .iface ih
 | gX=>exact .gX
 | map hl hv=>
  obtain ⟨p',h1,h2,h3,h4⟩:=le.loc _ _ hl
  have:=h4.one hv
  subst this
  exact .map h1 hv
 | kC=>exact .kC
 | iter hl hv=>
  obtain ⟨p',h1,h2,h3,h4⟩:=le.loc _ _ hl
  have:=h4.one hv
  subst this
  exact .iter h1 hv
def mU (κ:cT) (w:World) (b sz cap:Nat) (xs:List (List D)):Prop:=
 ∃(cs:Array Value) (t:TypeId),w.heap[b]? =some (.cells cs t (0,0))∧cap*sz≤cs.size∧
  ∀(i:Nat) (x:List D) (j:Nat) (d:D),xs[i]? =some x→x[j]? =some d→∃v,cs[i*sz+j]? =some v∧cL κ w v d
def iN (κ:cT) (w:World) (p:Place):cJ→Prop
 | .cells ds=>p.aY=1∧p.base=0∧¬κ.jv p.blk∧∃(cs:Array Value) (t:TypeId),w.heap[p.blk]? =some (.cells cs t (0,0))∧cs.size=ds.length∧∀(i:Nat) (d:D),ds[i]? =some d→∃v,cs[i]? =some v∧cL κ w v d
 | .row sz aY xs fz=>p.aY=aY∧2≤aY∧p.sz=sz∧(fz=true→κ.jv p.blk)∧(fz=false→¬κ.jv p.blk)∧xs.length≤p.cap∧p.cap≤9223372036854775807∧(∀x∈xs,x.length=sz)∧
   ∃(cs:Array Value) (t:TypeId),w.heap[p.blk]? =some (.cells cs t (0,0))∧p.base+p.cap*sz≤cs.size∧
    ∀(i:Nat) (x:List D) (j:Nat) (d:D),xs[i]? =some x→x[j]? =some d→∃v,cs[p.base+i*sz+j]? =some v∧cL κ w v d
 | .dz sz aY xs du=>p.aY=aY∧2≤aY∧p.sz=sz∧¬κ.jv p.blk∧p.base=0∧xs.length≤p.cap∧p.cap≤9223372036854775807∧(∀x∈xs,x.length=sz)∧mU κ w p.blk sz p.cap xs∧
   p.du.map (fun e=>(e.aY,e.len))=du∧(∀e∈p.du,2≤e.aY∧e.aY<aY∧e.sz=sz∧¬κ.jv e.blk∧e.len≤e.cap∧e.cap≤9223372036854775807∧e.len≤xs.length∧mU κ w e.blk sz e.cap (xs.take e.len))∧
   p.du.Pairwise (fun a b=>b.aY<a.aY∧b.len≤a.len)
 | .map es=>p.aY=1∧¬κ.jv p.blk∧∃(ms:Array MapEntry) (clock:Nat),w.heap[p.blk]? =some (.map ms clock)∧ms.size=es.length∧∀(i:Nat) (kv:D×D),es[i]? =some kv→∃m:MapEntry,ms[i]? =some m∧cL κ w m.key kv.1∧cL κ w m.val kv.2
 | .lH s pos=>p.aY=1∧¬κ.jv p.blk∧w.heap[p.blk]? =some (.stringIter ⟨s.toArray⟩ pos)
 | .lp st=>p.aY=1∧¬κ.jv p.blk∧∃R,p.rc=some R∧w.heap[p.blk]? =some (.loop (st.on R))
 | .dfr=>p.aY=1∧¬κ.jv p.blk∧w.heap[p.blk]? =some (.deferred (some []))
 | .other=>p.aY=1∧¬κ.jv p.blk
class aT where
 of:Nat→Option (List D)
 ints:Nat→Option IntKind
structure iX [aT] (κ:cT) (w:World):Prop where
 of:∀g ds,aT.of g=some ds→κ.jv g∧∃(cs:Array Value) (t:TypeId),w.heap[g]? =some (.cells cs t (0,0))∧cs.size=ds.length∧∀(j:Nat) (d:D),ds[j]? =some d→∃v,cs[j]? =some v∧cL κ w v d
 ints:∀g k,aT.ints g=some k→κ.jv g∧∃m:Int,w.cell? ⟨g,0,none⟩=some (.int k m)
theorem iX.mono [aT] {κ κ':cT} {w w':World} (h:iX κ w) (le:Le κ w κ' w'):iX κ' w':=by
 constructor
 ·intro g ds e
  obtain ⟨h1,cs,t,h2,h3,h4⟩:=h.of g ds e
  refine ⟨(le.jv g h1).1,cs,t,(le.jv g h1).2.trans h2,h3,fun j d hj=>?_⟩
  obtain ⟨v,h5,h6⟩:=h4 j d hj
  exact ⟨v,h5,h6.mono le⟩
 ·intro g k e
  obtain ⟨h1,m,h2⟩:=h.ints g k e
  exact ⟨(le.jv g h1).1,m,by rw [World.cell?_of_block (w:=w) (le.jv g h1).2]; exact h2⟩
theorem iX.rep [aT] {κ:cT} {w:World} (h:iX κ w) {g:Nat} {ds:List D} (e:aT.of g=some ds):cL κ w (.pointer (some ⟨g,0,none⟩)) (.cO ds 0):=by
 obtain ⟨h1,cs,t,h2,h3,h4⟩:=h.of g ds e
 have:=cL.cO (κ:=κ) (w:=w) (b:=g) (base:=0) (off:=0) (cells:=ds) (fun j=>cs.getD j (.tuple #[])) h1 (fun j d hj=>by
  obtain ⟨v,h5,_⟩:=h4 j d hj
  simp [World.cell?,h2,h5,Array.getD_eq_getD_getElem?]) (fun j d hj=>by
  obtain ⟨v,h5,h6⟩:=h4 j d hj
  show cL κ w (cs.getD j (.tuple #[])) d
  rw [Array.getD_eq_getD_getElem?,h5]
  exact h6)
 simpa using this
def cJ.mP (o:cJ) (p:Place):List Old:=match o with
 | .dz .. =>p.du
 | _=>[]
def Own (o:cJ) (p:Place) (b:Nat):Prop:=p.blk=b∨∃e∈o.mP p,e.blk=b
theorem Own.L_ {o:cJ} {p:Place} {b:Nat} (h:Own o p b) (e:p.du=[]):p.blk=b:=by
 rcases h with h | ⟨x,hx,_⟩
 ·exact h
 ·exfalso
  cases o with
  | dz sz aY xs du=>simp [cJ.mP,e] at hx
  | _=>cases hx
theorem Own.self {o:cJ} {p:Place}:Own o p p.blk:=.inl rfl
structure Inv [aT] (κ:cT) (h:aa) (w:World):Prop where
 gM:∀b,κ.jv b→b<w.heap.size
 jV:∀id p,κ.loc id=some p→p.blk<w.heap.size
 fresh:∃N,∀id,N≤id→κ.loc id=none
 obj:∀id o,h.f id=some o→∃p,κ.loc id=some p∧iN κ w p o
 inj:∀i j oi oj pi pj b,h.f i=some oi→h.f j=some oj→oi.live=true→oj.live=true→κ.loc i=some pi→κ.loc j=some pj→Own oi pi b→Own oj pj b→i=j
 mN:iX κ w
def n7 (κ:cT) (h:aa) (b:Nat):Prop:=∃id o p,h.f id=some o∧o.live=true∧κ.loc id=some p∧Own o p b
theorem iN.ZZ {κ:cT} {w:World} {p:Place} {o:cJ} (h:iN κ w p o) (hl:o.live=true) {b:Nat} (hb:Own o p b):¬κ.jv b:=by
 rcases hb with rfl | ⟨e,he,rfl⟩
 ·cases o with
  | cells ds=>exact h.2.2.1
  | row sz aY xs fz=>exact h.2.2.2.2.1 (by simpa [cJ.live] using hl)
  | dz sz aY xs du=>exact h.2.2.2.1
  | map es=>exact h.2.1
  | lH s pos=>exact h.2.1
  | lp st=>exact h.2.1
  | dfr=>exact h.2.1
  | other=>exact h.2
 ·cases o with
  | dz sz aY xs du=>
   obtain ⟨_,_,_,_,_,_,_,_,_,_,k,_⟩:=h
   exact (k e he).2.2.2.1
  | _=>cases he
theorem iN.je {κ:cT} {w:World} {p:Place} {o:cJ} (h:iN κ w p o) (hp:p.blk<w.heap.size) {b:Nat} (hb:Own o p b):b<w.heap.size:=by
 rcases hb with rfl | ⟨e,he,rfl⟩
 ·exact hp
 ·cases o with
  | dz sz aY xs du=>
   obtain ⟨_,_,_,_,_,_,_,_,_,_,k,_⟩:=h
   obtain ⟨_,_,_,_,_,_,_,cs,t,hc,_⟩:=k e he
   exact (Array.getElem?_eq_some_iff.1 hc).1
  | _=>cases he
theorem Inv.je [aT] {κ:cT} {h:aa} {w:World} (hi:Inv κ h w) {id:Nat} {o:cJ} {p:Place} (ho:h.f id=some o) (hp:κ.loc id=some p) {b:Nat} (hb:Own o p b):b<w.heap.size:=by
 obtain ⟨p',h1,h2⟩:=hi.obj id o ho
 rw [hp] at h1
 cases h1
 exact h2.je (hi.jV id p hp) hb
theorem Inv.kL [aT] {κ:cT} {h:aa} {w:World} (hi:Inv κ h w) {b:Nat} (ho:n7 κ h b):¬κ.jv b:=by
 obtain ⟨id,o,p,h1,h2,h3,hb⟩:=ho
 obtain ⟨p',h4,h5⟩:=hi.obj id o h1
 rw [h3] at h4
 cases h4
 exact h5.ZZ h2 hb
structure Ev (κ:cT) (h:aa) (w:World) (κ':cT) (h':aa) (w':World):Prop where
 os:w'.os=w.os
 tape:w'.tape=w.tape
 output:w'.output=w.output
 size:w.heap.size≤w'.heap.size
 blocks:∀b,b<w.heap.size→¬n7 κ h b→w'.heap[b]? =w.heap[b]?
 jv:∀b,κ.jv b→κ'.jv b
 LV:∀b,b<w.heap.size→κ'.jv b→κ.jv b∨n7 κ h b
 loc:∀id p,κ.loc id=some p→∃p',κ'.loc id=some p'∧p.aY≤p'.aY∧(p'.aY=p.aY→p'=p)∧tN p p'
 SG:∀id p,κ.loc id=some p→h.f id=none→κ'.loc id=some p
 own:∀b,b<w.heap.size→n7 κ' h' b→n7 κ h b
 ids:∀id p,κ.loc id=some p→h.f id=none→h'.f id=none
theorem Ev.refl (κ:cT) (h:aa) (w:World):Ev κ h w κ h w:=
 ⟨rfl,rfl,rfl,Nat.le_refl _,fun _ _ _=>rfl,fun _ h=>h,fun _ _ h=>.inl h,fun _ p h=>⟨p,h,Nat.le_refl _,fun _=>rfl,tN.refl p⟩,fun _ _ h _=>h,fun _ _ h=>h,fun _ _ _ h=>h⟩
theorem Ev.trans {κ κ1 κ2:cT} {h h1 h2:aa} {w w1 w2:World} (a:Ev κ h w κ1 h1 w1) (b:Ev κ1 h1 w1 κ2 h2 w2):Ev κ h w κ2 h2 w2 where
 os:=b.os.trans a.os
 tape:=b.tape.trans a.tape
 output:=b.output.trans a.output
 size:=Nat.le_trans a.size b.size
 blocks:=fun x hx ho=>(b.blocks x (Nat.lt_of_lt_of_le hx a.size) (fun h=>ho (a.own x hx h))).trans (a.blocks x hx ho)
 jv:=fun x hx=>b.jv x (a.jv x hx)
 LV:=fun x hx hi=>by
  rcases b.LV x (Nat.lt_of_lt_of_le hx a.size) hi with h | h
  ·exact a.LV x hx h
  ·exact .inr (a.own x hx h)
 loc:=fun id p hp=>by
  obtain ⟨p1,e1,l1,s1,t1⟩:=a.loc id p hp
  obtain ⟨p2,e2,l2,s2,t2⟩:=b.loc id p1 e1
  refine ⟨p2,e2,Nat.le_trans l1 l2,fun e=>?_,t1.trans t2 l1 s1⟩
  have:p1.aY=p.aY:=Nat.le_antisymm (e▸l2) l1
  rw [s2 (e.trans this.symm),s1 this]
 SG:=fun id p hp hn=>b.SG id p (a.SG id p hp hn) (a.ids id p hp hn)
 own:=fun x hx h=>a.own x hx (b.own x (Nat.lt_of_lt_of_le hx a.size) h)
 ids:=fun id p hp hn=>b.ids id p (a.SG id p hp hn) (a.ids id p hp hn)
theorem Ev.le [aT] {κ κ':cT} {h h':aa} {w w':World} (e:Ev κ h w κ' h' w') (hi:Inv κ h w):Le κ w κ' w':=
 ⟨fun b hb=>⟨e.jv b hb,e.blocks b (hi.gM b hb) fun ho=>hi.kL ho hb⟩,e.loc⟩
def aa.sub (h' h:aa):Prop:=∀id o,h'.f id=some o→h.f id=some o
theorem aa.aj (h:aa):h.sub h:=fun _ _ e=>e
theorem aa.mV (h:aa):aa.emp.sub h:=fun _ _ e=>by simp at e
theorem Inv.sub [aT] {κ:cT} {h h':aa} {w:World} (hi:Inv κ h w) (hs:h'.sub h):Inv κ h' w:=
 ⟨hi.gM,hi.jV,hi.fresh,fun id o e=>hi.obj id o (hs id o e),fun i j oi oj pi pj b e1 e2=>hi.inj i j oi oj pi pj b (hs i oi e1) (hs j oj e2),hi.mN⟩
theorem n7.sub {κ:cT} {h h':aa} {b:Nat} (ho:n7 κ h' b) (hs:h'.sub h):n7 κ h b:=by
 obtain ⟨id,o,p,h1,h2⟩:=ho
 exact ⟨id,o,p,hs id o h1,h2⟩
theorem Own.Dy {o:cJ} {p:Place} {b:Nat} (h:Own o p b) (ho:∀sz aY xs du,o≠.dz sz aY xs du):p.blk=b:=by
 rcases h with h | ⟨e,he,_⟩
 ·exact h
 ·cases o with
  | dz sz aY xs du=>exact absurd rfl (ho sz aY xs du)
  | _=>cases he
theorem mU.mono {κ κ':cT} {w w':World} {b sz cap:Nat} {xs:List (List D)} (h:mU κ w b sz cap xs) (le:Le κ w κ' w') (hb:w'.heap[b]? =w.heap[b]?):mU κ' w' b sz cap xs:=by
 obtain ⟨cs,t,h1,h2,h3⟩:=h
 exact ⟨cs,t,hb.trans h1,h2,fun i x j d hx hj=>let ⟨v,e,r⟩:=h3 i x j d hx hj; ⟨v,e,r.mono le⟩⟩
theorem Ev.sub {κ κ':cT} {h h' na:aa} {w w':World} (e:Ev κ h w κ' h' w') (hs:na.sub h'):Ev κ h w κ' na w':=
 { e with
  own:=fun b hb ho=>e.own b hb (ho.sub hs)
  ids:=fun id p hp hn=>by
   cases hh:na.f id with
   | none=>rfl
   | some o=>rw [←e.ids id p hp hn,hs id o hh] }
end Go.Proofs.YtpklkpkfgmoghaaGreatDoor.Zz
namespace Go.Proofs.YtpklkpkfgmoghaaGreatDoor.Zz
theorem iN.mono {κ κ':cT} {w w':World} {p:Place} {o:cJ} (h:iN κ w p o) (le:Le κ w κ' w') (hbs:∀b,Own o p b→w'.heap[b]? =w.heap[b]?) (his:∀b,Own o p b→κ'.jv b→κ.jv b):iN κ' w' p o:=by
 have hb:=hbs p.blk Own.self
 have hi:=his p.blk Own.self
 cases o with
 | dz sz aY xs du=>
  obtain ⟨h1,h2,h3,h4,h5,h6,h7,h8,h9,h10,Zr,h12⟩:=h
  refine ⟨h1,h2,h3,fun x=>h4 (hi x),h5,h6,h7,h8,h9.mono le hb,h10,fun e he=>?_,h12⟩
  obtain ⟨k1,k2,k3,k4,k5,k6,k7,k8⟩:=Zr e he
  exact ⟨k1,k2,k3,fun x=>k4 (his _ (.inr ⟨e,he,rfl⟩) x),k5,k6,k7,k8.mono le (hbs _ (.inr ⟨e,he,rfl⟩))⟩
 | cells ds=>
  obtain ⟨h1,h2,h3,cs,t,h4,h5,h6⟩:=h
  exact ⟨h1,h2,fun x=>h3 (hi x),cs,t,hb.trans h4,h5,fun i d hd=>let ⟨v,e,r⟩:=h6 i d hd; ⟨v,e,r.mono le⟩⟩
 | row sz aY xs fz=>
  obtain ⟨h1,ov,h2,h3,h4,h5,Fl,h6,cs,t,h7,h8,h9⟩:=h
  exact ⟨h1,ov,h2,fun e=>(le.jv _ (h3 e)).1,fun e x=>h4 e (hi x),h5,Fl,h6,cs,t,hb.trans h7,h8,fun i x j d hx hj=>let ⟨v,e,r⟩:=h9 i x j d hx hj; ⟨v,e,r.mono le⟩⟩
 | map es=>
  obtain ⟨h1,h2,ms,cl,h3,h4,h5⟩:=h
  exact ⟨h1,fun x=>h2 (hi x),ms,cl,hb.trans h3,h4,fun i kv hk=>let ⟨m,e,r1,r2⟩:=h5 i kv hk; ⟨m,e,r1.mono le,r2.mono le⟩⟩
 | lH s pos=>exact ⟨h.1,fun x=>h.2.1 (hi x),hb.trans h.2.2⟩
 | lp st=>obtain ⟨h1,h2,R,h3,h4⟩:=h; exact ⟨h1,fun x=>h2 (hi x),R,h3,hb.trans h4⟩
 | dfr=>exact ⟨h.1,fun x=>h.2.1 (hi x),hb.trans h.2.2⟩
 | other=>exact ⟨h.1,fun x=>h.2 (hi x)⟩
theorem Le.of_heap {κ:cT} {w w':World} (e:w'.heap=w.heap):Le κ w κ w':=⟨fun _ h=>⟨h,by rw [e]⟩,(Le.refl κ w).loc⟩
theorem Inv.of_heap [aT] {κ:cT} {h:aa} {w w':World} (hi:Inv κ h w) (e:w'.heap=w.heap):Inv κ h w':=
 ⟨fun b hb=>by rw [e]; exact hi.gM b hb,fun id p hp=>by rw [e]; exact hi.jV id p hp,hi.fresh,
  fun id o ho=>let ⟨p,h1,h2⟩:=hi.obj id o ho; ⟨p,h1,h2.mono (Le.of_heap e) (fun b _=>by rw [e]) fun _ _ x=>x⟩,hi.inj,hi.mN.mono (Le.of_heap e)⟩
theorem Ev.of_heap {κ:cT} {h:aa} {w w':World} (e:w'.heap=w.heap) (e1:w'.os=w.os) (e2:w'.tape=w.tape) (e3:w'.output=w.output):Ev κ h w κ h w':=
 { Ev.refl κ h w with os:=e1,tape:=e2,output:=e3,size:=by rw [e]; exact Nat.le_refl _,blocks:=fun _ _ _=>by rw [e] }
theorem Inv.vO [aT] {κ:cT} {h:aa} {w:World} (hi:Inv κ h w):∃id,κ.loc id=none∧h.f id=none:=by
 obtain ⟨N,hN⟩:=hi.fresh
 refine ⟨N,hN N (Nat.le_refl _),?_⟩
 cases e:h.f N with
 | none=>rfl
 | some o=>
  obtain ⟨p,hp,_⟩:=hi.obj N o e
  rw [hN N (Nat.le_refl _)] at hp
  cases hp
def cT.put (κ:cT) (id:Nat) (p:Place):cT:={ κ with loc:=fun i=>if i=id then some p else κ.loc i }
theorem heap_alloc_old (w:World) (o:Obj) {b:Nat} (hb:b<w.heap.size):(w.alloc o).heap[b]? =w.heap[b]? :=by
 show (w.heap.push o)[b]? =_
 rw [Array.getElem?_push,if_neg (by omega)]
theorem dZ (w:World) (o:Obj):(w.alloc o).heap[w.heap.size]? =some o:=by
 show (w.heap.push o)[w.heap.size]? =_
 simp
theorem Le.alloc [aT] {κ:cT} {h:aa} {w:World} (hi:Inv κ h w) (o:Obj) {id:Nat} (hid:κ.loc id=none) (p:Place):Le κ w (κ.put id p) (w.alloc o):=
 ⟨fun b hb=>⟨hb,heap_alloc_old w o (hi.gM b hb)⟩,fun i q hq=>⟨q,by
  have:i≠id:=fun e=>by subst e; rw [hid] at hq; cases hq
  simp [cT.put,this,hq],Nat.le_refl _,fun _=>rfl,tN.refl q⟩⟩
theorem Inv.alloc [aT] {κ:cT} {h:aa} {w:World} (hi:Inv κ h w) {id:Nat} (hid:κ.loc id=none) (hf:h.f id=none) (ob:Obj) (o:cJ) (p:Place) (hp:p.blk=w.heap.size) (hpo:p.du=[])
  (hl:o.live=true) (hr:iN (κ.put id p) (w.alloc ob) p o):Inv (κ.put id p) (h.set id o) (w.alloc ob)∧Ev κ h w (κ.put id p) (h.set id o) (w.alloc ob):=by
 have le:=Le.alloc (κ:=κ) hi ob hid p
 have du:∀i q,κ.loc i=some q→i≠id:=fun i q hq e=>by subst e; rw [hid] at hq; cases hq
 constructor
 ·refine ⟨fun b hb=>?_,fun i q hq=>?_,?_,fun i o' qI=>?_,fun i j oi oj pi pj b ei ej li lj qi qj B7 HG=>?_,hi.mN.mono le⟩
  ·have:=hi.gM b hb
   simp; omega
  ·simp only [cT.put] at hq
   split at hq
   ·cases hq; simp; omega
   ·have:=hi.jV i q hq
    simp; omega
  ·obtain ⟨N,hN⟩:=hi.fresh
   refine ⟨max N (id+1),fun i hle=>?_⟩
   have:i≠id:=by omega
   simp only [cT.put,this,if_false]
   exact hN i (by omega)
  ·simp only [aa.b9] at qI
   split at qI
   ·rename_i e
    cases qI
    exact ⟨p,by simp [cT.put,e],hr⟩
   ·rename_i e
    obtain ⟨q,hq,LL⟩:=hi.obj i o' qI
    exact ⟨q,by simp [cT.put,e,hq],LL.mono le (fun b hb=>heap_alloc_old w ob (hi.je qI hq hb)) fun _ _ x=>x⟩
  ·simp only [aa.b9,cT.put] at ei ej qi qj
   by_cases e1:i=id<;>by_cases e2:j=id
   ·rw [e1,e2]
   ·simp only [e1,e2,if_true,if_false,Option.some.injEq] at qi qj ej
    have:=hi.je ej qj HG
    subst qi
    have:=B7.L_ hpo
    omega
   ·simp only [e1,e2,if_true,if_false,Option.some.injEq] at qi qj ei
    have:=hi.je ei qi B7
    subst qj
    have:=HG.L_ hpo
    omega
   ·simp only [e1,e2,if_false] at ei ej qi qj
    exact hi.inj i j oi oj pi pj b ei ej li lj qi qj B7 HG
 ·refine ⟨rfl,rfl,rfl,by simp,fun b hb _=>heap_alloc_old w ob hb,fun _ h=>h,fun _ _ h=>.inl h,le.loc,fun i q hq _=>by simp [cT.put,du i q hq,hq],fun b hb ho=>?_,fun i q hq hn=>by simp [du i q hq,hn]⟩
  obtain ⟨i,o',q,h1,h2,h3,h4⟩:=ho
  simp only [aa.b9,cT.put] at h1 h3
  by_cases e:i=id
  ·simp only [e,if_true,Option.some.injEq] at h3
   subst h3
   have:=h4.L_ hpo
   omega
  ·simp only [e,if_false] at h1 h3
   exact ⟨i,o',q,h1,h2,h3,h4⟩
theorem Inv.RI [aT] {κ:cT} {h:aa} {w:World} (hi:Inv κ h w) (ob:Obj):
  Inv { κ with jv:=fun b=>κ.jv b∨b=w.heap.size } h (w.alloc ob)∧Ev κ h w { κ with jv:=fun b=>κ.jv b∨b=w.heap.size } h (w.alloc ob):=by
 have le:Le κ w { κ with jv:=fun b=>κ.jv b∨b=w.heap.size } (w.alloc ob):=
  ⟨fun b hb=>⟨.inl hb,heap_alloc_old w ob (hi.gM b hb)⟩,(Le.refl κ w).loc⟩
 constructor
 ·refine ⟨fun b hb=>?_,fun i q hq=>?_,hi.fresh,fun i o' qI=>?_,hi.inj,hi.mN.mono le⟩
  ·rcases hb with hb | hb
   ·have:=hi.gM b hb
    simp; omega
   ·simp; omega
  ·have:=hi.jV i q hq
   simp; omega
  ·obtain ⟨q,hq,LL⟩:=hi.obj i o' qI
   exact ⟨q,hq,LL.mono le (fun b hb=>heap_alloc_old w ob (hi.je qI hq hb)) fun b hb x=>x.resolve_right (by have:=hi.je qI hq hb; omega)⟩
 ·exact { Ev.refl κ h w with
   size:=by simp
   blocks:=fun b hb _=>heap_alloc_old w ob hb
   jv:=fun b hb=>.inl hb
   LV:=fun b hb hx=>.inl (hx.resolve_right (by omega)) }
theorem Inv.yM [aT] {κ:cT} {h:aa} {w w':World} (hi:Inv κ h w) {id:Nat} {o o':cJ} {p p':Place} (ho:h.f id=some o) (hp:κ.loc id=some p) (hl:o.live=true) (pf:o'.live=true)
  (qd:w.heap.size≤w'.heap.size) (TI:p'.blk<w'.heap.size) (Vg:∀b,Own o' p' b→Own o p b∨w.heap.size≤b) (aej:p.aY≤p'.aY) (vJ:p'.aY=p.aY→p'=p) (hv2:tN p p')
  (e1:w'.os=w.os) (e2:w'.tape=w.tape) (e3:w'.output=w.output)
  (hb:∀b,b<w.heap.size→¬Own o p b→w'.heap[b]? =w.heap[b]?) (hr:iN (κ.put id p') w' p' o'):
  Inv (κ.put id p') (h.set id o') w'∧Ev κ h w (κ.put id p') (h.set id o') w':=by
 have own:∀b,Own o p b→n7 κ h b:=fun b hb=>⟨id,o,p,ho,hl,hp,hb⟩
 have le:Le κ w (κ.put id p') w':=by
  refine ⟨fun b B7=>⟨B7,hb b (hi.gM b B7) fun e=>hi.kL (own b e) B7⟩,fun i q hq=>?_⟩
  by_cases e:i=id
  ·subst e
   rw [hp] at hq
   cases hq
   exact ⟨p',by simp [cT.put],aej,vJ,hv2⟩
  ·exact ⟨q,by simp [cT.put,e,hq],Nat.le_refl _,fun _=>rfl,tN.refl q⟩
 constructor
 ·refine ⟨fun b YC=>?_,fun i q hq=>?_,?_,fun i o1 ti=>?_,fun i j oi oj pi pj b ei ej li lj qi qj B7 HG=>?_,hi.mN.mono le⟩
  ·have:=hi.gM b YC
   omega
  ·simp only [cT.put] at hq
   split at hq
   ·cases hq; exact TI
   ·have:=hi.jV i q hq
    omega
  ·obtain ⟨N,hN⟩:=hi.fresh
   refine ⟨N,fun i hle=>?_⟩
   have:i≠id:=fun e=>by subst e; rw [hN i hle] at hp; cases hp
   simp only [cT.put,this,if_false]
   exact hN i hle
  ·simp only [aa.b9] at ti
   split at ti
   ·rename_i e
    cases ti
    exact ⟨p',by simp [cT.put,e],hr⟩
   ·rename_i e
    obtain ⟨q,hq,LL⟩:=hi.obj i o1 ti
    refine ⟨q,by simp [cT.put,e,hq],LL.mono le (fun b nZ=>?_) fun _ _ x=>x⟩
    refine hb b (hi.je ti hq nZ) fun eb=>?_
    by_cases Zy:o1.live=true
    ·exact e (hi.inj i id o1 o q p b ti ho Zy hl hq hp nZ eb)
    ·have:κ.jv b:=by
      cases o1 with
      | row sz aY xs fz=>
       have hbb:=nZ.Dy (by simp)
       exact hbb▸LL.2.2.2.1 (by simpa [cJ.live] using Zy)
      | _=>simp [cJ.live] at Zy
     exact hi.kL (own b eb) this
  ·simp only [aa.b9,cT.put] at ei ej qi qj
   by_cases e1:i=id<;>by_cases e2:j=id
   ·rw [e1,e2]
   ·simp only [e1,e2,if_true,if_false,Option.some.injEq] at ei ej qi qj
    subst qi ei
    rcases Vg b B7 with hk | hk
    ·exact absurd (hi.inj id j o oj p pj b ho ej hl lj hp qj hk HG) (Ne.symm e2)
    ·have:=hi.je ej qj HG
     omega
   ·simp only [e1,e2,if_true,if_false,Option.some.injEq] at ei ej qi qj
    subst qj ej
    rcases Vg b HG with hk | hk
    ·exact absurd (hi.inj i id oi o pi p b ei ho li hl qi hp B7 hk) e1
    ·have:=hi.je ei qi B7
     omega
   ·simp only [e1,e2,if_false] at ei ej qi qj
    exact hi.inj i j oi oj pi pj b ei ej li lj qi qj B7 HG
 ·refine ⟨e1,e2,e3,qd,fun b ig yS=>hb b ig fun e=>yS (own b e),fun _ h=>h,fun _ _ h=>.inl h,le.loc,fun i q hq hn=>?_,fun b ig ZB=>?_,fun i q hq hn=>?_⟩
  ·have:i≠id:=fun e=>by subst e; rw [ho] at hn; cases hn
   simp [cT.put,this,hq]
  ·obtain ⟨i,o1,q,h1,h2,h3,h4⟩:=ZB
   simp only [aa.b9,cT.put] at h1 h3
   by_cases e:i=id
   ·simp only [e,if_true,Option.some.injEq] at h3 h1
    subst h3 h1
    rcases Vg b h4 with hk | hk
    ·exact own b hk
    ·omega
   ·simp only [e,if_false] at h1 h3
    exact ⟨i,o1,q,h1,h2,h3,h4⟩
  ·have:i≠id:=fun e=>by subst e; rw [ho] at hn; cases hn
   simp [this,hn]
theorem Inv.change [aT] {κ:cT} {h:aa} {w w':World} (hi:Inv κ h w) {id:Nat} {o o':cJ} {p p':Place} (ho:h.f id=some o) (hp:κ.loc id=some p) (hl:o.live=true) (pf:o'.live=true)
  (qd:w.heap.size≤w'.heap.size) (TI:p'.blk<w'.heap.size) (Vg:p'.blk=p.blk∨w.heap.size≤p'.blk) (aej:p.aY≤p'.aY) (vJ:p'.aY=p.aY→p'=p) (hv2:p.aY=1→p'=p)
  (e1:w'.os=w.os) (e2:w'.tape=w.tape) (e3:w'.output=w.output)
  (hb:∀b,b<w.heap.size→b≠p.blk→w'.heap[b]? =w.heap[b]?) (hr:iN (κ.put id p') w' p' o')
  (hpo:p'=p∨p'.du=[]:=by first | exact .inl rfl | exact .inr rfl) (hn':∀b,Own o' p' b→p'.blk=b:=by intro b h; exact h.Dy (by simp)):
  Inv (κ.put id p') (h.set id o') w'∧Ev κ h w (κ.put id p') (h.set id o') w':=by
 refine hi.yM ho hp hl pf qd TI (fun b nZ=>?_) aej vJ ?_ e1 e2 e3 (fun b ig yS=>hb b ig fun e=>yS (e▸Own.self)) hr
 ·rw [←hn' b nZ]
  rcases Vg with k | k
  ·exact .inl (k▸Own.self)
  ·exact .inr k
 ·rcases hpo with k | k
  ·subst k; exact tN.refl _
  ·exact ⟨hv2,fun e he=>by (rw [k] at he; cases he),fun e he=>by (rw [k] at he; cases he)⟩
theorem Inv.freeze [aT] {κ:cT} {h:aa} {w:World} (hi:Inv κ h w) {r:Nat} {sz aY:Nat} {xs:List (List D)} (ho:h.f r=some (.row sz aY xs false)):
  ∃κ',Inv κ' (h.set r (.row sz aY xs true)) w∧Ev κ h w κ' (h.set r (.row sz aY xs true)) w∧κ'.loc=κ.loc:=by
 obtain ⟨p,hp,hr⟩:=hi.obj r _ ho
 have own:n7 κ h p.blk:=⟨r,_,p,ho,rfl,hp,Own.self⟩
 let κ':cT:={ κ with jv:=fun b=>κ.jv b∨b=p.blk }
 have le:Le κ w κ' w:=⟨fun b hb=>⟨.inl hb,rfl⟩,(Le.refl κ w).loc⟩
 refine ⟨κ',?_,?_,rfl⟩
 ·refine ⟨fun b hb=>?_,hi.jV,hi.fresh,fun i o1 ti=>?_,fun i j oi oj pi pj b ei ej li lj qi qj B7 HG=>?_,hi.mN.mono le⟩
  ·rcases hb with hb | hb
   ·exact hi.gM b hb
   ·rw [hb]; exact hi.jV r p hp
  ·simp only [aa.b9] at ti
   split at ti
   ·rename_i e
    cases ti
    subst e
    obtain ⟨h1,ov,h2,h3,h4,h5,Fl,h6,cs,t,h7,h8,h9⟩:=hr
    exact ⟨p,hp,h1,ov,h2,fun _=>.inr rfl,fun e=>(by cases e),h5,Fl,h6,cs,t,h7,h8,fun i x j d hx hj=>let ⟨v,e,r⟩:=h9 i x j d hx hj; ⟨v,e,r.mono le⟩⟩
   ·rename_i e
    obtain ⟨q,hq,LL⟩:=hi.obj i o1 ti
    by_cases Zy:o1.live=true
    ·refine ⟨q,hq,LL.mono le (fun _ _=>rfl) fun b nZ x=>x.resolve_right fun eb=>e (hi.inj i r o1 _ q p b ti ho Zy rfl hq hp nZ (eb▸Own.self))⟩
    ·cases o1 with
     | row sz1 arE xs1 fz1=>
      have hf:fz1=true:=by simpa [cJ.live] using Zy
      subst hf
      obtain ⟨h1,ov,h2,h3,h4,h5,Fl,h6,cs,t,h7,h8,h9⟩:=LL
      exact ⟨q,hq,h1,ov,h2,fun e=>.inl (h3 e),fun e=>(by cases e),h5,Fl,h6,cs,t,h7,h8,fun i x j d hx hj=>let ⟨v,e,r⟩:=h9 i x j d hx hj; ⟨v,e,r.mono le⟩⟩
     | _=>simp [cJ.live] at Zy
  ·have iy:∀k ok,(h.set r (.row sz aY xs true)).f k=some ok→ok.live=true→k≠r:=fun k ok hk hlk e=>by
    subst e
    simp only [aa.b9,if_true,Option.some.injEq] at hk
    subst hk
    simp [cJ.live] at hlk
   have n1:=iy i oi ei li
   have n2:=iy j oj ej lj
   simp only [aa.b9,n1,n2,if_false] at ei ej
   exact hi.inj i j oi oj pi pj b ei ej li lj qi qj B7 HG
 ·refine { Ev.refl κ h w with jv:=fun b hb=>.inl hb,LV:=fun b _ hx=>hx.imp id fun e=>(by rw [e]; exact own),own:=fun b _ qI=>?_,ids:=fun id q hq hn=>?_ }
  ·obtain ⟨i,o1,q,h1,h2,h3,h4⟩:=qI
   simp only [aa.b9] at h1
   split at h1
   ·cases h1; simp [cJ.live] at h2
   ·exact ⟨i,o1,q,h1,h2,h3,h4⟩
  ·have:id≠r:=fun e=>by subst e; rw [ho] at hn; cases hn
   simp [this,hn]
def aa.union (h k:aa):aa:=⟨fun i=>match h.f i with | some o=>some o | none=>k.f i⟩
def aa.minus (h k:aa):aa:=⟨fun i=>match k.f i with | some _=>.none | .none=>h.f i⟩
theorem Inv.frame [aT] {κ κ':cT} {h h1 ov:aa} {w w':World} (hi:Inv κ h w) (hs:h1.sub h) (mI:Inv κ' ov w') (ev:Ev κ h1 w κ' ov w'):
  Inv κ' (ov.union (h.minus h1)) w'∧Ev κ h w κ' (ov.union (h.minus h1)) w'∧∀i,h.f i≠none→h1.f i=none→ov.f i=none:=by
 have le:=ev.le (hi.sub hs)
 have dis:∀i,h.f i≠none→h1.f i=none→ov.f i=none:=fun i iy hn=>by
  cases e:h.f i with
  | none=>exact absurd e iy
  | some o=>
   obtain ⟨p,hp,_⟩:=hi.obj i o e
   exact ev.ids i p hp hn
 have rest:∀i o,(ov.union (h.minus h1)).f i=some o→ov.f i=none→h.f i=some o∧h1.f i=none:=fun i o he hn=>by
  simp only [aa.union,hn,aa.minus] at he
  split at he
  ·cases he
  ·rename_i e; exact ⟨he,e⟩
 have VQ:∀i o p b,h.f i=some o→h1.f i=none→κ.loc i=some p→o.live=true→Own o p b→¬n7 κ h1 b:=fun i o p b e n q l nZ ⟨j,oj,pj,ej,lj,qj,hb⟩=>by
  have:=hi.inj j i oj o pj p b (hs j oj ej) e lj l qj q hb nZ
  subst this
  rw [n] at ej
  cases ej
 have uD:∀i o,h.f i=some o→h1.f i=none→∃p,κ'.loc i=some p∧κ.loc i=some p∧iN κ' w' p o:=fun i o e n=>by
  obtain ⟨p,hp,hr⟩:=hi.obj i o e
  refine ⟨p,ev.SG i p hp n,hp,?_⟩
  by_cases l:o.live=true
  ·have no:=fun b nZ=>VQ i o p b e n hp l nZ
   exact hr.mono le (fun b nZ=>ev.blocks b (hi.je e hp nZ) (no b nZ)) fun b nZ x=>(ev.LV b (hi.je e hp nZ) x).resolve_right (no b nZ)
  ·cases o with
   | row sz aY xs fz=>
    have hf:fz=true:=by simpa [cJ.live] using l
    subst hf
    have hb:=le.jv _ (hr.2.2.2.1 rfl)
    exact hr.mono le (fun b nZ=>by (have:=nZ.Dy (by simp)); subst this; exact hb.2) fun b nZ _=>by (have:=nZ.Dy (by simp)); subst this; exact hr.2.2.2.1 rfl
   | _=>simp [cJ.live] at l
 refine ⟨⟨mI.gM,mI.jV,mI.fresh,fun i o he=>?_,fun i j oi oj pi pj b ei ej li lj qi qj B7 HG=>?_,mI.mN⟩,⟨ev.os,ev.tape,ev.output,ev.size,fun b hb yS=>ev.blocks b hb fun ho=>yS (ho.sub hs),ev.jv,fun b hb hx=>(ev.LV b hb hx).imp id fun ho=>ho.sub hs,ev.loc,fun i p hp hn=>?_,fun b hb ho=>?_,fun i p hp hn=>?_⟩,dis⟩
 ·cases e:ov.f i with
  | some o'=>
   have:o'=o:=by simpa [aa.union,e] using he
   subst this
   exact mI.obj i o' e
  | none=>
   obtain ⟨a,b⟩:=rest i o he e
   obtain ⟨p,q,_,r⟩:=uD i o a b
   exact ⟨p,q,r⟩
 ·have ah4:∀k ok pk b,ov.f k=some ok→ok.live=true→κ'.loc k=some pk→Own ok pk b→b<w.heap.size→n7 κ h1 b:=fun k ok pk b e l q nZ ig=>ev.own _ ig ⟨k,ok,pk,e,l,q,nZ⟩
  have abq:∀k ok pk m om pm b,ov.f k=some ok→(ov.union (h.minus h1)).f m=some om→ov.f m=none→ok.live=true→om.live=true→κ'.loc k=some pk→κ'.loc m=some pm→Own ok pk b→Own om pm b→False:=fun k ok pk m om pm b ek em nm lk lm qk qm hbk hbm=>by
   obtain ⟨a,c⟩:=rest m om em nm
   obtain ⟨p,q1,q2,_⟩:=uD m om a c
   rw [qm] at q1
   cases q1
   have ig:=hi.je a q2 hbm
   exact VQ m om pm b a c q2 lm hbm (ah4 k ok pk b ek lk qk hbk ig)
  cases e1:ov.f i with
  | some o1=>
   have t1:o1=oi:=by simpa [aa.union,e1] using ei
   subst t1
   cases e2:ov.f j with
   | some o2=>
    have t2:o2=oj:=by simpa [aa.union,e2] using ej
    subst t2
    exact mI.inj i j o1 o2 pi pj b e1 e2 li lj qi qj B7 HG
   | none=>exact (abq i o1 pi j oj pj b e1 ej e2 li lj qi qj B7 HG).elim
  | none=>
   cases e2:ov.f j with
   | some o2=>
    have t2:o2=oj:=by simpa [aa.union,e2] using ej
    subst t2
    exact (abq j o2 pj i oi pi b e2 ei e1 lj li qj qi HG B7).elim
   | none=>
    obtain ⟨a,b'⟩:=rest i oi ei e1
    obtain ⟨c,d⟩:=rest j oj ej e2
    obtain ⟨p,q1,q2,_⟩:=uD i oi a b'
    obtain ⟨p',q1',q2',_⟩:=uD j oj c d
    rw [qi] at q1
    rw [qj] at q1'
    cases q1
    cases q1'
    exact hi.inj i j oi oj pi pj b a c li lj q2 q2' B7 HG
 ·refine ev.SG i p hp ?_
  cases e:h1.f i with
  | none=>rfl
  | some o=>rw [hs i o e] at hn; cases hn
 ·obtain ⟨i,o,p,e,l,q,YC⟩:=ho
  cases e1:ov.f i with
  | some o1=>
   have t1:o1=o:=by simpa [aa.union,e1] using e
   subst t1
   exact (ev.own b hb ⟨i,o1,p,e1,l,q,YC⟩).sub hs
  | none=>
   obtain ⟨a,c⟩:=rest i o e e1
   obtain ⟨p',q1,q2,_⟩:=uD i o a c
   rw [q] at q1
   cases q1
   exact ⟨i,o,p,a,l,q2,YC⟩
 ·have n1:h1.f i=none:=by
   cases e:h1.f i with
   | none=>rfl
   | some o=>rw [hs i o e] at hn; cases hn
  simp [aa.union,aa.minus,ev.ids i p hp n1,n1,hn]
end Go.Proofs.YtpklkpkfgmoghaaGreatDoor.Zz
