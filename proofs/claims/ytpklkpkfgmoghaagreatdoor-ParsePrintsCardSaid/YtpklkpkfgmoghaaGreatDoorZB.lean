/- Values as plain data, an abstract heap, and how they stand to the model's values and worlds. -/
import Derived.CallsIn
import Derived.Laws.Sem
import Derived.Laws.World
import Derived.Laws.Strings
import Derived.Laws.AppendOwn
set_option linter.unnecessarySimpa false
set_option linter.unusedVariables false
set_option linter.unusedSimpArgs false
namespace Go.Proofs.YtpklkpkfgmoghaaGreatDoor.Zz
inductive D where
 | undef
 | bool (b:Bool)
 | int (k:IntKind) (n:Int)
 | float (k:FloatKind) (bits:Nat)
 | str (s:List UInt8)
 | fY
 | ptr (id aP off:Nat)
 | cU (cells:List D) (off:Nat)
 | eC (r aP i f:Nat)
 | a_
 | sl (xs:List (List D))
 | row (r aP off len:Nat)
 | rL (id off len:Nat)
 | agg (ds:List D)
 | tuple (ds:List D)
 | func (fn:Fn) (first cap:List D)
 | eK
 | iface (t:TypeId) (d:D)
 | fL
 | map (id:Nat)
 | iS
 | iter (id:Nat)
instance:Inhabited D:=⟨.undef⟩
structure Old where
 aP:Nat
 blk:Nat
 cap:Nat
 sz:Nat
 len:Nat
structure Place where
 blk:Nat
 base:Nat
 aP:Nat
 cap:Nat
 sz:Nat
 rc:Option Loop
 fU:List Old:=[]
 kO:∀e∈fU,e.aP<aP∧e.sz=sz:=by simp
def Place.new (blk base aP cap sz:Nat) (rc:Option Loop):Place:={ blk,base,aP,cap,sz,rc }
inductive Ex where
 | normal | ret | exit (id:Nat)
def Ex.code:Ex→Option Code
 | .normal=>none
 | .ret=>some .ret
 | .exit id=>some (.exit id)
inductive Mf where
 | busy | done (e:Ex)
def Mf.on (R:Loop):Mf→Loop
 | .busy=>{ R with state:=.busy,pending:=none }
 | .done e=>{ R with state:=if e.code.isNone then .ready else .done,pending:=e.code }
inductive cI where
 | cells (ds:List D)
 | row (sz aP:Nat) (xs:List (List D)) (fz:Bool)
 | fW (sz aP:Nat) (xs:List (List D)) (fU:List (Nat×Nat))
 | map (es:List (D×D))
 | jL (s:List UInt8) (pos:Nat)
 | lp (st:Mf)
 | W9
 | other
def cI.live:cI→Bool
 | .row _ _ _ fz=> !fz
 | _=>true
structure aa where
 f:Nat→Option cI
def aa.emp:aa:=⟨fun _=>.none⟩
def aa.set (h:aa) (id:Nat) (o:cI):aa:=⟨fun i=>if i=id then some o else h.f i⟩
def aa.del (h:aa) (id:Nat):aa:=⟨fun i=>if i=id then .none else h.f i⟩
@[simp] theorem aa.M5 (i:Nat):aa.emp.f i=.none:=rfl
@[simp] theorem aa.dD (h:aa) (id i:Nat) (o:cI):(h.set id o).f i=if i=id then some o else h.f i:=rfl
@[simp] theorem aa.S9 (h:aa) (id i:Nat):(h.del id).f i=if i=id then .none else h.f i:=rfl
theorem aa.ext {h k:aa} (e:∀i,h.f i=k.f i):h=k:=by
 cases h; cases k; congr; exact funext e
theorem aa.set_set (h:aa) (id:Nat) (o p:cI):(h.set id o).set id p=h.set id p:=
 aa.ext fun i=>by simp only [aa.dD]; split<;>rfl
structure b9 where
 gC:Nat→Prop
 loc:Nat→Option Place
inductive bX (κ:b9) (w:World):Value→D→Prop
 | undef (v:Value):bX κ w v .undef
 | bool (b:Bool):bX κ w (.bool b) (.bool b)
 | int (k:IntKind) (n:Int):bX κ w (.int k n) (.int k n)
 | float (k:FloatKind) (n:Nat):bX κ w (.float k n) (.float k n)
 | str (s:List UInt8) (h:s.length≤9223372036854775807):bX κ w (.string ⟨s.toArray⟩) (.str s)
 | fY:bX κ w (.pointer none) .fY
 | ptr {id aP off:Nat} {p:Place} {a:Addr} (hl:κ.loc id=some p) (hv:aP≤p.aP) (ha:p.aP=aP→a=⟨p.blk,p.base+off,none⟩):bX κ w (.pointer (some a)) (.ptr id aP off)
 | cU {b base off:Nat} {cells:List D} (f:Nat→Value) (hb:κ.gC b) (hc:∀j d,cells[j]? =some d→w.cell? ⟨b,base+j,none⟩=some (f j)) (hr:∀j d,cells[j]? =some d→bX κ w (f j) d):
   bX κ w (.pointer (some ⟨b,base+off,none⟩)) (.cU cells off)
 | eC {r aP i f:Nat} {p:Place} {a:Addr} (hl:κ.loc r=some p) (hv:aP≤p.aP) (ha:p.aP=aP→a=⟨p.blk,p.base+i*p.sz+f,none⟩):bX κ w (.pointer (some a)) (.eC r aP i f)
 | a_:bX κ w (.slice none 0 0) .a_
 | slnil {ba:Option Addr} {cap:Nat} (hb:ba=.none→cap=0):bX κ w (.slice ba 0 cap) (.sl [])
 | sl {b o sz cap:Nat} {xs:List (List D)} (f:Nat→Nat→Value) (hn:xs.length≤9223372036854775807) (dO:xs.length≤cap) (mI:∀x∈xs,x.length=sz)
   (hc:∀i x j d,xs[i]? =some x→x[j]? =some d→κ.gC b∧w.cell? ⟨b,o+i*sz+j,none⟩=some (f i j)) (hr:∀i x j d,xs[i]? =some x→x[j]? =some d→bX κ w (f i j) d):
   bX κ w (.slice (some ⟨b,o,none⟩) xs.length cap) (.sl xs)
 | row {r aP off len cap:Nat} {p:Place} {a:Addr} (hl:κ.loc r=some p) (hv:aP≤p.aP) (hn:len≤9223372036854775807) (dO:len≤cap)
   (ha:p.aP=aP→cap=0∨(a=⟨p.blk,p.base+off*p.sz,none⟩∧off+cap=p.cap)) (hb:∀e∈p.fU,e.aP=aP→cap=0∨(a=⟨e.blk,off*e.sz,none⟩∧off+cap=e.cap)):bX κ w (.slice (some a) len cap) (.row r aP off len)
 | rL {id off len cap:Nat} {p:Place} {a:Addr} (hl:κ.loc id=some p) (hv:1≤p.aP) (hn:len≤9223372036854775807) (dO:len≤cap)
   (ha:p.aP=1→cap=0∨a=⟨p.blk,p.base+off,none⟩):bX κ w (.slice (some a) len cap) (.rL id off len)
 | agg {cs:Array Value} {ds:List D} (hs:cs.size=ds.length) (hr:∀i d,ds[i]? =some d→bX κ w (cs.getD i (.tuple #[])) d):bX κ w (.agg cs) (.agg ds)
 | tuple {cs:Array Value} {ds:List D} (hs:cs.size=ds.length) (hr:∀i d,ds[i]? =some d→bX κ w (cs.getD i (.tuple #[])) d):bX κ w (.tuple cs) (.tuple ds)
 | func {fn:Fn} {v1 v2:Array Value} {d1 d2:List D} (Fo:v1.size=d1.length) (Xm:v2.size=d2.length) (Vp:∀i d,d1[i]? =some d→bX κ w (v1.getD i (.tuple #[])) d)
   (Yn:∀i d,d2[i]? =some d→bX κ w (v2.getD i (.tuple #[])) d):bX κ w (.func fn v1 v2) (.func fn d1 d2)
 | eK:bX κ w .nilFunc .eK
 | iface {t:TypeId} {v:Value} {d:D} (hr:bX κ w v d):bX κ w (.iface t v) (.iface t d)
 | fL:bX κ w .nilIface .fL
 | map {id:Nat} {p:Place} (hl:κ.loc id=some p) (hv:p.aP=1):bX κ w (.map (some p.blk)) (.map id)
 | iS:bX κ w (.map none) .iS
 | iter {id:Nat} {p:Place} (hl:κ.loc id=some p) (hv:p.aP=1):bX κ w (.pointer (some ⟨p.blk,0,none⟩)) (.iter id)
theorem bX.D8 {κ:b9} {w:World} {b o sz cap len:Nat} {xs:List (List D)} (e:len=xs.length) (f:Nat→Nat→Value) (hn:xs.length≤9223372036854775807) (dO:xs.length≤cap) (mI:∀x∈xs,x.length=sz)
   (hc:∀(i:Nat) (x:List D) (j:Nat) (d:D),xs[i]? =some x→x[j]? =some d→κ.gC b∧w.cell? ⟨b,o+i*sz+j,none⟩=some (f i j)) (hr:∀(i:Nat) (x:List D) (j:Nat) (d:D),xs[i]? =some x→x[j]? =some d→bX κ w (f i j) d):
   bX κ w (.slice (some ⟨b,o,none⟩) len cap) (.sl xs):=by subst e; exact .sl f hn dO mI hc hr
structure qc (p p':Place):Prop where
 one:p.aP=1→p'=p
 lt:∀e∈p'.fU,e.aP<p.aP→e∈p.fU
 eq:∀e∈p'.fU,e.aP=p.aP→p'.aP≠p.aP→p.base=0∧e.blk=p.blk∧e.cap=p.cap∧e.sz=p.sz
theorem qc.refl (p:Place):qc p p:=⟨fun _=>rfl,fun _ h _=>h,fun _ _ _ h=>absurd rfl h⟩
theorem qc.NY {p p':Place} (h:p.aP≠1) (e:p'.fU=[]):qc p p':=
 ⟨fun x=>absurd x h,fun x hx=>by (rw [e] at hx; cases hx),fun x hx=>by (rw [e] at hx; cases hx)⟩
theorem qc.trans {p p1 p2:Place} (a:qc p p1) (b:qc p1 p2) (l1:p.aP≤p1.aP) (s1:p1.aP=p.aP→p1=p):qc p p2:=by
 refine ⟨fun e=>?_,fun e he hv=>a.lt e (b.lt e he (Nat.lt_of_lt_of_le hv l1)) hv,fun e he hv hn=>?_⟩
 ·have:=a.one e; subst this; exact b.one e
 ·by_cases c:p1.aP=p.aP
  ·have:=s1 c; subst this; exact b.eq e he hv hn
  ·exact a.eq e (b.lt e he (by omega)) hv c
structure Le (κ:b9) (w:World) (κ':b9) (w':World):Prop where
 gC:∀b,κ.gC b→κ'.gC b∧w'.heap[b]? =w.heap[b]?
 loc:∀id p,κ.loc id=some p→∃p',κ'.loc id=some p'∧p.aP≤p'.aP∧(p'.aP=p.aP→p'=p)∧qc p p'
theorem Le.refl (κ:b9) (w:World):Le κ w κ w:=⟨fun _ h=>⟨h,rfl⟩,fun _ p h=>⟨p,h,Nat.le_refl _,fun _=>rfl,qc.refl p⟩⟩
theorem bX.mono {κ κ':b9} {w w':World} {v:Value} {d:D} (h:bX κ w v d) (le:Le κ w κ' w'):bX κ' w' v d:=by
 induction h with
 | undef v=>exact .undef v
 | bool b=>exact .bool b
 | int k n=>exact .int k n
 | float k n=>exact .float k n
 | str s h=>exact .str s h
 | fY=>exact .fY
 | ptr hl hv ha=>
  obtain ⟨p',h1,h2,h3,_⟩:=le.loc _ _ hl
  exact .ptr h1 (Nat.le_trans hv h2) fun e=>by
   have e':p'.aP=_:=Nat.le_antisymm (e▸hv) h2
   rw [h3 e']; exact ha (by rw [←e',e])
 | cU f hb hc hr ih=>
  exact .cU f (le.gC _ hb).1 (fun j d hj=>by rw [World.cell?_of_block (w:=w) (le.gC _ hb).2]; exact hc j d hj) ih
 | eC hl hv ha=>
  obtain ⟨p',h1,h2,h3,_⟩:=le.loc _ _ hl
  exact .eC h1 (Nat.le_trans hv h2) fun e=>by
   have e':p'.aP=_:=Nat.le_antisymm (e▸hv) h2
   rw [h3 e']; exact ha (by rw [←e',e])
 | a_=>exact .a_
 | slnil hb=>exact .slnil hb
 | sl f hn dO mI hc hr ih=>
  exact .sl f hn dO mI (fun i x j d hi hj=>by
   obtain ⟨h1,h2⟩:=hc i x j d hi hj
   exact ⟨(le.gC _ h1).1,by rw [World.cell?_of_block (w:=w) (le.gC _ h1).2]; exact h2⟩) ih
 | row hl hv hn dO ha hb=>
  rename_i r aP off len cap p a
  obtain ⟨p',h1,h2,h3,h4⟩:=le.loc _ _ hl
  refine .row h1 (Nat.le_trans hv h2) hn dO (fun e=>?_) fun e he Xd=>?_
  ·have e':p'.aP=_:=Nat.le_antisymm (e▸hv) h2
   rw [h3 e']; exact ha (by rw [←e',e])
  ·by_cases c:aP<p.aP
   ·exact hb e (h4.lt e he (by omega)) Xd
   ·have hpv:p.aP=aP:=by omega
    by_cases c2:p'.aP=p.aP
    ·have:=h3 c2; subst this; exact hb e he Xd
    ·obtain ⟨q1,q2,q3,q4⟩:=h4.eq e he (by omega) c2
     rcases ha hpv with k | ⟨k1,k2⟩
     ·exact .inl k
     ·exact .inr ⟨by rw [k1,q1,q2,q4,Nat.zero_add],by rw [q3]; exact k2⟩
 | rL hl hv hn dO ha=>
  obtain ⟨p',h1,h2,h3,_⟩:=le.loc _ _ hl
  exact .rL h1 (Nat.le_trans hv h2) hn dO fun e=>by
   have e':p'.aP=_:=Nat.le_antisymm (e▸hv) h2
   rw [h3 e']; exact ha (by rw [←e',e])
 | agg hs hr ih=>exact .agg hs ih
 | tuple hs hr ih=>exact .tuple hs ih
 | func Fo Xm Vp Yn ih1 ih2=>exact .func Fo Xm ih1 ih2
 | eK=>exact .eK
 | iface hr ih=>exact .iface ih
 | fL=>exact .fL
 | map hl hv=>
  obtain ⟨p',h1,h2,h3,h4⟩:=le.loc _ _ hl
  have:=h4.one hv
  subst this
  exact .map h1 hv
 | iS=>exact .iS
 | iter hl hv=>
  obtain ⟨p',h1,h2,h3,h4⟩:=le.loc _ _ hl
  have:=h4.one hv
  subst this
  exact .iter h1 hv
def kF (κ:b9) (w:World) (b sz cap:Nat) (xs:List (List D)):Prop:=
 ∃(cs:Array Value) (t:TypeId),w.heap[b]? =some (.cells cs t (0,0))∧cap*sz≤cs.size∧
  ∀(i:Nat) (x:List D) (j:Nat) (d:D),xs[i]? =some x→x[j]? =some d→∃v,cs[i*sz+j]? =some v∧bX κ w v d
def fX (κ:b9) (w:World) (p:Place):cI→Prop
 | .cells ds=>p.aP=1∧p.base=0∧¬κ.gC p.blk∧∃(cs:Array Value) (t:TypeId),w.heap[p.blk]? =some (.cells cs t (0,0))∧cs.size=ds.length∧∀(i:Nat) (d:D),ds[i]? =some d→∃v,cs[i]? =some v∧bX κ w v d
 | .row sz aP xs fz=>p.aP=aP∧2≤aP∧p.sz=sz∧(fz=true→κ.gC p.blk)∧(fz=false→¬κ.gC p.blk)∧xs.length≤p.cap∧p.cap≤9223372036854775807∧(∀x∈xs,x.length=sz)∧
   ∃(cs:Array Value) (t:TypeId),w.heap[p.blk]? =some (.cells cs t (0,0))∧p.base+p.cap*sz≤cs.size∧
    ∀(i:Nat) (x:List D) (j:Nat) (d:D),xs[i]? =some x→x[j]? =some d→∃v,cs[p.base+i*sz+j]? =some v∧bX κ w v d
 | .fW sz aP xs fU=>p.aP=aP∧2≤aP∧p.sz=sz∧¬κ.gC p.blk∧p.base=0∧xs.length≤p.cap∧p.cap≤9223372036854775807∧(∀x∈xs,x.length=sz)∧kF κ w p.blk sz p.cap xs∧
   p.fU.map (fun e=>(e.aP,e.len))=fU∧(∀e∈p.fU,2≤e.aP∧e.aP<aP∧e.sz=sz∧¬κ.gC e.blk∧e.len≤e.cap∧e.cap≤9223372036854775807∧e.len≤xs.length∧kF κ w e.blk sz e.cap (xs.take e.len))∧
   p.fU.Pairwise (fun a b=>b.aP<a.aP∧b.len≤a.len)
 | .map es=>p.aP=1∧¬κ.gC p.blk∧∃(ms:Array MapEntry) (clock:Nat),w.heap[p.blk]? =some (.map ms clock)∧ms.size=es.length∧∀(i:Nat) (kv:D×D),es[i]? =some kv→∃m:MapEntry,ms[i]? =some m∧bX κ w m.key kv.1∧bX κ w m.val kv.2
 | .jL s pos=>p.aP=1∧¬κ.gC p.blk∧w.heap[p.blk]? =some (.stringIter ⟨s.toArray⟩ pos)
 | .lp st=>p.aP=1∧¬κ.gC p.blk∧∃R,p.rc=some R∧w.heap[p.blk]? =some (.loop (st.on R))
 | .W9=>p.aP=1∧¬κ.gC p.blk∧w.heap[p.blk]? =some (.deferred (some []))
 | .other=>p.aP=1∧¬κ.gC p.blk
class aL where
 of:Nat→Option (List D)
 ints:Nat→Option IntKind
structure gh [aL] (κ:b9) (w:World):Prop where
 of:∀g ds,aL.of g=some ds→κ.gC g∧∃(cs:Array Value) (t:TypeId),w.heap[g]? =some (.cells cs t (0,0))∧cs.size=ds.length∧∀(j:Nat) (d:D),ds[j]? =some d→∃v,cs[j]? =some v∧bX κ w v d
 ints:∀g k,aL.ints g=some k→κ.gC g∧∃m:Int,w.cell? ⟨g,0,none⟩=some (.int k m)
theorem gh.mono [aL] {κ κ':b9} {w w':World} (h:gh κ w) (le:Le κ w κ' w'):gh κ' w':=by
 constructor
 ·intro g ds e
  obtain ⟨h1,cs,t,h2,h3,h4⟩:=h.of g ds e
  refine ⟨(le.gC g h1).1,cs,t,(le.gC g h1).2.trans h2,h3,fun j d hj=>?_⟩
  obtain ⟨v,h5,h6⟩:=h4 j d hj
  exact ⟨v,h5,h6.mono le⟩
 ·intro g k e
  obtain ⟨h1,m,h2⟩:=h.ints g k e
  exact ⟨(le.gC g h1).1,m,by rw [World.cell?_of_block (w:=w) (le.gC g h1).2]; exact h2⟩
theorem gh.rep [aL] {κ:b9} {w:World} (h:gh κ w) {g:Nat} {ds:List D} (e:aL.of g=some ds):bX κ w (.pointer (some ⟨g,0,none⟩)) (.cU ds 0):=by
 obtain ⟨h1,cs,t,h2,h3,h4⟩:=h.of g ds e
 have:=bX.cU (κ:=κ) (w:=w) (b:=g) (base:=0) (off:=0) (cells:=ds) (fun j=>cs.getD j (.tuple #[])) h1 (fun j d hj=>by
  obtain ⟨v,h5,_⟩:=h4 j d hj
  simp [World.cell?,h2,h5,Array.getD_eq_getD_getElem?]) (fun j d hj=>by
  obtain ⟨v,h5,h6⟩:=h4 j d hj
  show bX κ w (cs.getD j (.tuple #[])) d
  rw [Array.getD_eq_getD_getElem?,h5]
  exact h6)
 simpa using this
def cI.kA (o:cI) (p:Place):List Old:=match o with
 | .fW .. =>p.fU
 | _=>[]
def Own (o:cI) (p:Place) (b:Nat):Prop:=p.blk=b∨∃e∈o.kA p,e.blk=b
theorem Own.Gj {o:cI} {p:Place} {b:Nat} (h:Own o p b) (e:p.fU=[]):p.blk=b:=by
 rcases h with h | ⟨x,hx,_⟩
 ·exact h
 ·exfalso
  cases o with
  | fW sz aP xs fU=>simp [cI.kA,e] at hx
  | _=>cases hx
theorem Own.self {o:cI} {p:Place}:Own o p p.blk:=.inl rfl
structure Inv [aL] (κ:b9) (h:aa) (w:World):Prop where
 fb:∀b,κ.gC b→b<w.heap.size
 h_:∀id p,κ.loc id=some p→p.blk<w.heap.size
 fresh:∃N,∀id,N≤id→κ.loc id=none
 obj:∀id o,h.f id=some o→∃p,κ.loc id=some p∧fX κ w p o
 inj:∀i j oi oj pi pj b,h.f i=some oi→h.f j=some oj→oi.live=true→oj.live=true→κ.loc i=some pi→κ.loc j=some pj→Own oi pi b→Own oj pj b→i=j
 kz:gh κ w
def lC (κ:b9) (h:aa) (b:Nat):Prop:=∃id o p,h.f id=some o∧o.live=true∧κ.loc id=some p∧Own o p b
theorem fX.RJ {κ:b9} {w:World} {p:Place} {o:cI} (h:fX κ w p o) (hl:o.live=true) {b:Nat} (hb:Own o p b):¬κ.gC b:=by
 rcases hb with rfl | ⟨e,he,rfl⟩
 ·cases o with
  | cells ds=>exact h.2.2.1
  | row sz aP xs fz=>exact h.2.2.2.2.1 (by simpa [cI.live] using hl)
  | fW sz aP xs fU=>exact h.2.2.2.1
  | map es=>exact h.2.1
  | jL s pos=>exact h.2.1
  | lp st=>exact h.2.1
  | W9=>exact h.2.1
  | other=>exact h.2
 ·cases o with
  | fW sz aP xs fU=>
   obtain ⟨_,_,_,_,_,_,_,_,_,_,k,_⟩:=h
   exact (k e he).2.2.2.1
  | _=>cases he
theorem fX.gz {κ:b9} {w:World} {p:Place} {o:cI} (h:fX κ w p o) (hp:p.blk<w.heap.size) {b:Nat} (hb:Own o p b):b<w.heap.size:=by
 rcases hb with rfl | ⟨e,he,rfl⟩
 ·exact hp
 ·cases o with
  | fW sz aP xs fU=>
   obtain ⟨_,_,_,_,_,_,_,_,_,_,k,_⟩:=h
   obtain ⟨_,_,_,_,_,_,_,cs,t,hc,_⟩:=k e he
   exact (Array.getElem?_eq_some_iff.1 hc).1
  | _=>cases he
theorem Inv.gz [aL] {κ:b9} {h:aa} {w:World} (hi:Inv κ h w) {id:Nat} {o:cI} {p:Place} (ho:h.f id=some o) (hp:κ.loc id=some p) {b:Nat} (hb:Own o p b):b<w.heap.size:=by
 obtain ⟨p',h1,h2⟩:=hi.obj id o ho
 rw [hp] at h1
 cases h1
 exact h2.gz (hi.h_ id p hp) hb
theorem Inv.jc [aL] {κ:b9} {h:aa} {w:World} (hi:Inv κ h w) {b:Nat} (ho:lC κ h b):¬κ.gC b:=by
 obtain ⟨id,o,p,h1,h2,h3,hb⟩:=ho
 obtain ⟨p',h4,h5⟩:=hi.obj id o h1
 rw [h3] at h4
 cases h4
 exact h5.RJ h2 hb
structure Ev (κ:b9) (h:aa) (w:World) (κ':b9) (h':aa) (w':World):Prop where
 os:w'.os=w.os
 tape:w'.tape=w.tape
 output:w'.output=w.output
 size:w.heap.size≤w'.heap.size
 blocks:∀b,b<w.heap.size→¬lC κ h b→w'.heap[b]? =w.heap[b]?
 gC:∀b,κ.gC b→κ'.gC b
 F4:∀b,b<w.heap.size→κ'.gC b→κ.gC b∨lC κ h b
 loc:∀id p,κ.loc id=some p→∃p',κ'.loc id=some p'∧p.aP≤p'.aP∧(p'.aP=p.aP→p'=p)∧qc p p'
 Li:∀id p,κ.loc id=some p→h.f id=none→κ'.loc id=some p
 own:∀b,b<w.heap.size→lC κ' h' b→lC κ h b
 ids:∀id p,κ.loc id=some p→h.f id=none→h'.f id=none
theorem Ev.refl (κ:b9) (h:aa) (w:World):Ev κ h w κ h w:=
 ⟨rfl,rfl,rfl,Nat.le_refl _,fun _ _ _=>rfl,fun _ h=>h,fun _ _ h=>.inl h,fun _ p h=>⟨p,h,Nat.le_refl _,fun _=>rfl,qc.refl p⟩,fun _ _ h _=>h,fun _ _ h=>h,fun _ _ _ h=>h⟩
theorem Ev.trans {κ κ1 κ2:b9} {h h1 h2:aa} {w w1 w2:World} (a:Ev κ h w κ1 h1 w1) (b:Ev κ1 h1 w1 κ2 h2 w2):Ev κ h w κ2 h2 w2 where
 os:=b.os.trans a.os
 tape:=b.tape.trans a.tape
 output:=b.output.trans a.output
 size:=Nat.le_trans a.size b.size
 blocks:=fun x hx ho=>(b.blocks x (Nat.lt_of_lt_of_le hx a.size) (fun h=>ho (a.own x hx h))).trans (a.blocks x hx ho)
 gC:=fun x hx=>b.gC x (a.gC x hx)
 F4:=fun x hx hi=>by
  rcases b.F4 x (Nat.lt_of_lt_of_le hx a.size) hi with h | h
  ·exact a.F4 x hx h
  ·exact .inr (a.own x hx h)
 loc:=fun id p hp=>by
  obtain ⟨p1,e1,l1,s1,t1⟩:=a.loc id p hp
  obtain ⟨p2,e2,l2,s2,t2⟩:=b.loc id p1 e1
  refine ⟨p2,e2,Nat.le_trans l1 l2,fun e=>?_,t1.trans t2 l1 s1⟩
  have:p1.aP=p.aP:=Nat.le_antisymm (e▸l2) l1
  rw [s2 (e.trans this.symm),s1 this]
 Li:=fun id p hp hn=>b.Li id p (a.Li id p hp hn) (a.ids id p hp hn)
 own:=fun x hx h=>a.own x hx (b.own x (Nat.lt_of_lt_of_le hx a.size) h)
 ids:=fun id p hp hn=>b.ids id p (a.Li id p hp hn) (a.ids id p hp hn)
theorem Ev.le [aL] {κ κ':b9} {h h':aa} {w w':World} (e:Ev κ h w κ' h' w') (hi:Inv κ h w):Le κ w κ' w':=
 ⟨fun b hb=>⟨e.gC b hb,e.blocks b (hi.fb b hb) fun ho=>hi.jc ho hb⟩,e.loc⟩
def aa.sub (h' h:aa):Prop:=∀id o,h'.f id=some o→h.f id=some o
theorem aa.aS (h:aa):h.sub h:=fun _ _ e=>e
theorem aa.iW (h:aa):aa.emp.sub h:=fun _ _ e=>by simp at e
theorem Inv.sub [aL] {κ:b9} {h h':aa} {w:World} (hi:Inv κ h w) (hs:h'.sub h):Inv κ h' w:=
 ⟨hi.fb,hi.h_,hi.fresh,fun id o e=>hi.obj id o (hs id o e),fun i j oi oj pi pj b e1 e2=>hi.inj i j oi oj pi pj b (hs i oi e1) (hs j oj e2),hi.kz⟩
theorem lC.sub {κ:b9} {h h':aa} {b:Nat} (ho:lC κ h' b) (hs:h'.sub h):lC κ h b:=by
 obtain ⟨id,o,p,h1,h2⟩:=ho
 exact ⟨id,o,p,hs id o h1,h2⟩
theorem Own.zd {o:cI} {p:Place} {b:Nat} (h:Own o p b) (ho:∀sz aP xs fU,o≠.fW sz aP xs fU):p.blk=b:=by
 rcases h with h | ⟨e,he,_⟩
 ·exact h
 ·cases o with
  | fW sz aP xs fU=>exact absurd rfl (ho sz aP xs fU)
  | _=>cases he
theorem kF.mono {κ κ':b9} {w w':World} {b sz cap:Nat} {xs:List (List D)} (h:kF κ w b sz cap xs) (le:Le κ w κ' w') (hb:w'.heap[b]? =w.heap[b]?):kF κ' w' b sz cap xs:=by
 obtain ⟨cs,t,h1,h2,h3⟩:=h
 exact ⟨cs,t,hb.trans h1,h2,fun i x j d hx hj=>let ⟨v,e,r⟩:=h3 i x j d hx hj; ⟨v,e,r.mono le⟩⟩
theorem Ev.sub {κ κ':b9} {h h' kK:aa} {w w':World} (e:Ev κ h w κ' h' w') (hs:kK.sub h'):Ev κ h w κ' kK w':=
 { e with
  own:=fun b hb ho=>e.own b hb (ho.sub hs)
  ids:=fun id p hp hn=>by
   cases hh:kK.f id with
   | none=>rfl
   | some o=>rw [←e.ids id p hp hn,hs id o hh] }
end Go.Proofs.YtpklkpkfgmoghaaGreatDoor.Zz
namespace Go.Proofs.YtpklkpkfgmoghaaGreatDoor.Zz
theorem fX.mono {κ κ':b9} {w w':World} {p:Place} {o:cI} (h:fX κ w p o) (le:Le κ w κ' w') (hbs:∀b,Own o p b→w'.heap[b]? =w.heap[b]?) (his:∀b,Own o p b→κ'.gC b→κ.gC b):fX κ' w' p o:=by
 have hb:=hbs p.blk Own.self
 have hi:=his p.blk Own.self
 cases o with
 | fW sz aP xs fU=>
  obtain ⟨h1,h2,h3,h4,h5,h6,h7,h8,h9,Xa,Rf,QF⟩:=h
  refine ⟨h1,h2,h3,fun x=>h4 (hi x),h5,h6,h7,h8,h9.mono le hb,Xa,fun e he=>?_,QF⟩
  obtain ⟨k1,k2,k3,k4,k5,k6,k7,k8⟩:=Rf e he
  exact ⟨k1,k2,k3,fun x=>k4 (his _ (.inr ⟨e,he,rfl⟩) x),k5,k6,k7,k8.mono le (hbs _ (.inr ⟨e,he,rfl⟩))⟩
 | cells ds=>
  obtain ⟨h1,h2,h3,cs,t,h4,h5,h6⟩:=h
  exact ⟨h1,h2,fun x=>h3 (hi x),cs,t,hb.trans h4,h5,fun i d hd=>let ⟨v,e,r⟩:=h6 i d hd; ⟨v,e,r.mono le⟩⟩
 | row sz aP xs fz=>
  obtain ⟨h1,lL,h2,h3,h4,h5,AW,h6,cs,t,h7,h8,h9⟩:=h
  exact ⟨h1,lL,h2,fun e=>(le.gC _ (h3 e)).1,fun e x=>h4 e (hi x),h5,AW,h6,cs,t,hb.trans h7,h8,fun i x j d hx hj=>let ⟨v,e,r⟩:=h9 i x j d hx hj; ⟨v,e,r.mono le⟩⟩
 | map es=>
  obtain ⟨h1,h2,ms,cl,h3,h4,h5⟩:=h
  exact ⟨h1,fun x=>h2 (hi x),ms,cl,hb.trans h3,h4,fun i kv hk=>let ⟨m,e,r1,r2⟩:=h5 i kv hk; ⟨m,e,r1.mono le,r2.mono le⟩⟩
 | jL s pos=>exact ⟨h.1,fun x=>h.2.1 (hi x),hb.trans h.2.2⟩
 | lp st=>obtain ⟨h1,h2,R,h3,h4⟩:=h; exact ⟨h1,fun x=>h2 (hi x),R,h3,hb.trans h4⟩
 | W9=>exact ⟨h.1,fun x=>h.2.1 (hi x),hb.trans h.2.2⟩
 | other=>exact ⟨h.1,fun x=>h.2 (hi x)⟩
theorem Le.of_heap {κ:b9} {w w':World} (e:w'.heap=w.heap):Le κ w κ w':=⟨fun _ h=>⟨h,by rw [e]⟩,(Le.refl κ w).loc⟩
theorem Inv.of_heap [aL] {κ:b9} {h:aa} {w w':World} (hi:Inv κ h w) (e:w'.heap=w.heap):Inv κ h w':=
 ⟨fun b hb=>by rw [e]; exact hi.fb b hb,fun id p hp=>by rw [e]; exact hi.h_ id p hp,hi.fresh,
  fun id o ho=>let ⟨p,h1,h2⟩:=hi.obj id o ho; ⟨p,h1,h2.mono (Le.of_heap e) (fun b _=>by rw [e]) fun _ _ x=>x⟩,hi.inj,hi.kz.mono (Le.of_heap e)⟩
theorem Ev.of_heap {κ:b9} {h:aa} {w w':World} (e:w'.heap=w.heap) (e1:w'.os=w.os) (e2:w'.tape=w.tape) (e3:w'.output=w.output):Ev κ h w κ h w':=
 { Ev.refl κ h w with os:=e1,tape:=e2,output:=e3,size:=by rw [e]; exact Nat.le_refl _,blocks:=fun _ _ _=>by rw [e] }
theorem Inv.r_ [aL] {κ:b9} {h:aa} {w:World} (hi:Inv κ h w):∃id,κ.loc id=none∧h.f id=none:=by
 obtain ⟨N,hN⟩:=hi.fresh
 refine ⟨N,hN N (Nat.le_refl _),?_⟩
 cases e:h.f N with
 | none=>rfl
 | some o=>
  obtain ⟨p,hp,_⟩:=hi.obj N o e
  rw [hN N (Nat.le_refl _)] at hp
  cases hp
def b9.put (κ:b9) (id:Nat) (p:Place):b9:={ κ with loc:=fun i=>if i=id then some p else κ.loc i }
theorem heap_alloc_old (w:World) (o:Obj) {b:Nat} (hb:b<w.heap.size):(w.alloc o).heap[b]? =w.heap[b]? :=by
 show (w.heap.push o)[b]? =_
 rw [Array.getElem?_push,if_neg (by omega)]
theorem c7 (w:World) (o:Obj):(w.alloc o).heap[w.heap.size]? =some o:=by
 show (w.heap.push o)[w.heap.size]? =_
 simp
theorem Le.alloc [aL] {κ:b9} {h:aa} {w:World} (hi:Inv κ h w) (o:Obj) {id:Nat} (hid:κ.loc id=none) (p:Place):Le κ w (κ.put id p) (w.alloc o):=
 ⟨fun b hb=>⟨hb,heap_alloc_old w o (hi.fb b hb)⟩,fun i q hq=>⟨q,by
  have:i≠id:=fun e=>by subst e; rw [hid] at hq; cases hq
  simp [b9.put,this,hq],Nat.le_refl _,fun _=>rfl,qc.refl q⟩⟩
theorem Inv.alloc [aL] {κ:b9} {h:aa} {w:World} (hi:Inv κ h w) {id:Nat} (hid:κ.loc id=none) (hf:h.f id=none) (ob:Obj) (o:cI) (p:Place) (hp:p.blk=w.heap.size) (Xl:p.fU=[])
  (hl:o.live=true) (hr:fX (κ.put id p) (w.alloc ob) p o):Inv (κ.put id p) (h.set id o) (w.alloc ob)∧Ev κ h w (κ.put id p) (h.set id o) (w.alloc ob):=by
 have le:=Le.alloc (κ:=κ) hi ob hid p
 have fU:∀i q,κ.loc i=some q→i≠id:=fun i q hq e=>by subst e; rw [hid] at hq; cases hq
 constructor
 ·refine ⟨fun b hb=>?_,fun i q hq=>?_,?_,fun i o' nu=>?_,fun i j oi oj pi pj b ei ej li lj qi qj xH CO=>?_,hi.kz.mono le⟩
  ·have:=hi.fb b hb
   simp; omega
  ·simp only [b9.put] at hq
   split at hq
   ·cases hq; simp; omega
   ·have:=hi.h_ i q hq
    simp; omega
  ·obtain ⟨N,hN⟩:=hi.fresh
   refine ⟨max N (id+1),fun i hle=>?_⟩
   have:i≠id:=by omega
   simp only [b9.put,this,if_false]
   exact hN i (by omega)
  ·simp only [aa.dD] at nu
   split at nu
   ·rename_i e
    cases nu
    exact ⟨p,by simp [b9.put,e],hr⟩
   ·rename_i e
    obtain ⟨q,hq,Ny⟩:=hi.obj i o' nu
    exact ⟨q,by simp [b9.put,e,hq],Ny.mono le (fun b hb=>heap_alloc_old w ob (hi.gz nu hq hb)) fun _ _ x=>x⟩
  ·simp only [aa.dD,b9.put] at ei ej qi qj
   by_cases e1:i=id<;>by_cases e2:j=id
   ·rw [e1,e2]
   ·simp only [e1,e2,if_true,if_false,Option.some.injEq] at qi qj ej
    have:=hi.gz ej qj CO
    subst qi
    have:=xH.Gj Xl
    omega
   ·simp only [e1,e2,if_true,if_false,Option.some.injEq] at qi qj ei
    have:=hi.gz ei qi xH
    subst qj
    have:=CO.Gj Xl
    omega
   ·simp only [e1,e2,if_false] at ei ej qi qj
    exact hi.inj i j oi oj pi pj b ei ej li lj qi qj xH CO
 ·refine ⟨rfl,rfl,rfl,by simp,fun b hb _=>heap_alloc_old w ob hb,fun _ h=>h,fun _ _ h=>.inl h,le.loc,fun i q hq _=>by simp [b9.put,fU i q hq,hq],fun b hb ho=>?_,fun i q hq hn=>by simp [fU i q hq,hn]⟩
  obtain ⟨i,o',q,h1,h2,h3,h4⟩:=ho
  simp only [aa.dD,b9.put] at h1 h3
  by_cases e:i=id
  ·simp only [e,if_true,Option.some.injEq] at h3
   subst h3
   have:=h4.Gj Xl
   omega
  ·simp only [e,if_false] at h1 h3
   exact ⟨i,o',q,h1,h2,h3,h4⟩
theorem Inv.KB [aL] {κ:b9} {h:aa} {w:World} (hi:Inv κ h w) (ob:Obj):
  Inv { κ with gC:=fun b=>κ.gC b∨b=w.heap.size } h (w.alloc ob)∧Ev κ h w { κ with gC:=fun b=>κ.gC b∨b=w.heap.size } h (w.alloc ob):=by
 have le:Le κ w { κ with gC:=fun b=>κ.gC b∨b=w.heap.size } (w.alloc ob):=
  ⟨fun b hb=>⟨.inl hb,heap_alloc_old w ob (hi.fb b hb)⟩,(Le.refl κ w).loc⟩
 constructor
 ·refine ⟨fun b hb=>?_,fun i q hq=>?_,hi.fresh,fun i o' nu=>?_,hi.inj,hi.kz.mono le⟩
  ·rcases hb with hb | hb
   ·have:=hi.fb b hb
    simp; omega
   ·simp; omega
  ·have:=hi.h_ i q hq
   simp; omega
  ·obtain ⟨q,hq,Ny⟩:=hi.obj i o' nu
   exact ⟨q,hq,Ny.mono le (fun b hb=>heap_alloc_old w ob (hi.gz nu hq hb)) fun b hb x=>x.resolve_right (by have:=hi.gz nu hq hb; omega)⟩
 ·exact { Ev.refl κ h w with
   size:=by simp
   blocks:=fun b hb _=>heap_alloc_old w ob hb
   gC:=fun b hb=>.inl hb
   F4:=fun b hb hx=>.inl (hx.resolve_right (by omega)) }
theorem Inv.uB [aL] {κ:b9} {h:aa} {w w':World} (hi:Inv κ h w) {id:Nat} {o o':cI} {p p':Place} (ho:h.f id=some o) (hp:κ.loc id=some p) (hl:o.live=true) (Ro:o'.live=true)
  (mI:w.heap.size≤w'.heap.size) (Nw:p'.blk<w'.heap.size) (Nn:∀b,Own o' p' b→Own o p b∨w.heap.size≤b) (Vv:p.aP≤p'.aP) (uF:p'.aP=p.aP→p'=p) (hv2:qc p p')
  (e1:w'.os=w.os) (e2:w'.tape=w.tape) (e3:w'.output=w.output)
  (hb:∀b,b<w.heap.size→¬Own o p b→w'.heap[b]? =w.heap[b]?) (hr:fX (κ.put id p') w' p' o'):
  Inv (κ.put id p') (h.set id o') w'∧Ev κ h w (κ.put id p') (h.set id o') w':=by
 have own:∀b,Own o p b→lC κ h b:=fun b hb=>⟨id,o,p,ho,hl,hp,hb⟩
 have le:Le κ w (κ.put id p') w':=by
  refine ⟨fun b xH=>⟨xH,hb b (hi.fb b xH) fun e=>hi.jc (own b e) xH⟩,fun i q hq=>?_⟩
  by_cases e:i=id
  ·subst e
   rw [hp] at hq
   cases hq
   exact ⟨p',by simp [b9.put],Vv,uF,hv2⟩
  ·exact ⟨q,by simp [b9.put,e,hq],Nat.le_refl _,fun _=>rfl,qc.refl q⟩
 constructor
 ·refine ⟨fun b QG=>?_,fun i q hq=>?_,?_,fun i o1 xI=>?_,fun i j oi oj pi pj b ei ej li lj qi qj xH CO=>?_,hi.kz.mono le⟩
  ·have:=hi.fb b QG
   omega
  ·simp only [b9.put] at hq
   split at hq
   ·cases hq; exact Nw
   ·have:=hi.h_ i q hq
    omega
  ·obtain ⟨N,hN⟩:=hi.fresh
   refine ⟨N,fun i hle=>?_⟩
   have:i≠id:=fun e=>by subst e; rw [hN i hle] at hp; cases hp
   simp only [b9.put,this,if_false]
   exact hN i hle
  ·simp only [aa.dD] at xI
   split at xI
   ·rename_i e
    cases xI
    exact ⟨p',by simp [b9.put,e],hr⟩
   ·rename_i e
    obtain ⟨q,hq,Ny⟩:=hi.obj i o1 xI
    refine ⟨q,by simp [b9.put,e,hq],Ny.mono le (fun b lB=>?_) fun _ _ x=>x⟩
    refine hb b (hi.gz xI hq lB) fun eb=>?_
    by_cases K9:o1.live=true
    ·exact e (hi.inj i id o1 o q p b xI ho K9 hl hq hp lB eb)
    ·have:κ.gC b:=by
      cases o1 with
      | row sz aP xs fz=>
       have hbb:=lB.zd (by simp)
       exact hbb▸Ny.2.2.2.1 (by simpa [cI.live] using K9)
      | _=>simp [cI.live] at K9
     exact hi.jc (own b eb) this
  ·simp only [aa.dD,b9.put] at ei ej qi qj
   by_cases e1:i=id<;>by_cases e2:j=id
   ·rw [e1,e2]
   ·simp only [e1,e2,if_true,if_false,Option.some.injEq] at ei ej qi qj
    subst qi ei
    rcases Nn b xH with hk | hk
    ·exact absurd (hi.inj id j o oj p pj b ho ej hl lj hp qj hk CO) (Ne.symm e2)
    ·have:=hi.gz ej qj CO
     omega
   ·simp only [e1,e2,if_true,if_false,Option.some.injEq] at ei ej qi qj
    subst qj ej
    rcases Nn b CO with hk | hk
    ·exact absurd (hi.inj i id oi o pi p b ei ho li hl qi hp xH hk) e1
    ·have:=hi.gz ei qi xH
     omega
   ·simp only [e1,e2,if_false] at ei ej qi qj
    exact hi.inj i j oi oj pi pj b ei ej li lj qi qj xH CO
 ·refine ⟨e1,e2,e3,mI,fun b gY xu=>hb b gY fun e=>xu (own b e),fun _ h=>h,fun _ _ h=>.inl h,le.loc,fun i q hq hn=>?_,fun b gY Rq=>?_,fun i q hq hn=>?_⟩
  ·have:i≠id:=fun e=>by subst e; rw [ho] at hn; cases hn
   simp [b9.put,this,hq]
  ·obtain ⟨i,o1,q,h1,h2,h3,h4⟩:=Rq
   simp only [aa.dD,b9.put] at h1 h3
   by_cases e:i=id
   ·simp only [e,if_true,Option.some.injEq] at h3 h1
    subst h3 h1
    rcases Nn b h4 with hk | hk
    ·exact own b hk
    ·omega
   ·simp only [e,if_false] at h1 h3
    exact ⟨i,o1,q,h1,h2,h3,h4⟩
  ·have:i≠id:=fun e=>by subst e; rw [ho] at hn; cases hn
   simp [this,hn]
theorem Inv.change [aL] {κ:b9} {h:aa} {w w':World} (hi:Inv κ h w) {id:Nat} {o o':cI} {p p':Place} (ho:h.f id=some o) (hp:κ.loc id=some p) (hl:o.live=true) (Ro:o'.live=true)
  (mI:w.heap.size≤w'.heap.size) (Nw:p'.blk<w'.heap.size) (Nn:p'.blk=p.blk∨w.heap.size≤p'.blk) (Vv:p.aP≤p'.aP) (uF:p'.aP=p.aP→p'=p) (hv2:p.aP=1→p'=p)
  (e1:w'.os=w.os) (e2:w'.tape=w.tape) (e3:w'.output=w.output)
  (hb:∀b,b<w.heap.size→b≠p.blk→w'.heap[b]? =w.heap[b]?) (hr:fX (κ.put id p') w' p' o')
  (Xl:p'=p∨p'.fU=[]:=by first | exact .inl rfl | exact .inr rfl) (hn':∀b,Own o' p' b→p'.blk=b:=by intro b h; exact h.zd (by simp)):
  Inv (κ.put id p') (h.set id o') w'∧Ev κ h w (κ.put id p') (h.set id o') w':=by
 refine hi.uB ho hp hl Ro mI Nw (fun b lB=>?_) Vv uF ?_ e1 e2 e3 (fun b gY xu=>hb b gY fun e=>xu (e▸Own.self)) hr
 ·rw [←hn' b lB]
  rcases Nn with k | k
  ·exact .inl (k▸Own.self)
  ·exact .inr k
 ·rcases Xl with k | k
  ·subst k; exact qc.refl _
  ·exact ⟨hv2,fun e he=>by (rw [k] at he; cases he),fun e he=>by (rw [k] at he; cases he)⟩
theorem Inv.freeze [aL] {κ:b9} {h:aa} {w:World} (hi:Inv κ h w) {r:Nat} {sz aP:Nat} {xs:List (List D)} (ho:h.f r=some (.row sz aP xs false)):
  ∃κ',Inv κ' (h.set r (.row sz aP xs true)) w∧Ev κ h w κ' (h.set r (.row sz aP xs true)) w∧κ'.loc=κ.loc:=by
 obtain ⟨p,hp,hr⟩:=hi.obj r _ ho
 have own:lC κ h p.blk:=⟨r,_,p,ho,rfl,hp,Own.self⟩
 let κ':b9:={ κ with gC:=fun b=>κ.gC b∨b=p.blk }
 have le:Le κ w κ' w:=⟨fun b hb=>⟨.inl hb,rfl⟩,(Le.refl κ w).loc⟩
 refine ⟨κ',?_,?_,rfl⟩
 ·refine ⟨fun b hb=>?_,hi.h_,hi.fresh,fun i o1 xI=>?_,fun i j oi oj pi pj b ei ej li lj qi qj xH CO=>?_,hi.kz.mono le⟩
  ·rcases hb with hb | hb
   ·exact hi.fb b hb
   ·rw [hb]; exact hi.h_ r p hp
  ·simp only [aa.dD] at xI
   split at xI
   ·rename_i e
    cases xI
    subst e
    obtain ⟨h1,lL,h2,h3,h4,h5,AW,h6,cs,t,h7,h8,h9⟩:=hr
    exact ⟨p,hp,h1,lL,h2,fun _=>.inr rfl,fun e=>(by cases e),h5,AW,h6,cs,t,h7,h8,fun i x j d hx hj=>let ⟨v,e,r⟩:=h9 i x j d hx hj; ⟨v,e,r.mono le⟩⟩
   ·rename_i e
    obtain ⟨q,hq,Ny⟩:=hi.obj i o1 xI
    by_cases K9:o1.live=true
    ·refine ⟨q,hq,Ny.mono le (fun _ _=>rfl) fun b lB x=>x.resolve_right fun eb=>e (hi.inj i r o1 _ q p b xI ho K9 rfl hq hp lB (eb▸Own.self))⟩
    ·cases o1 with
     | row sz1 agG xs1 X0=>
      have hf:X0=true:=by simpa [cI.live] using K9
      subst hf
      obtain ⟨h1,lL,h2,h3,h4,h5,AW,h6,cs,t,h7,h8,h9⟩:=Ny
      exact ⟨q,hq,h1,lL,h2,fun e=>.inl (h3 e),fun e=>(by cases e),h5,AW,h6,cs,t,h7,h8,fun i x j d hx hj=>let ⟨v,e,r⟩:=h9 i x j d hx hj; ⟨v,e,r.mono le⟩⟩
     | _=>simp [cI.live] at K9
  ·have iw:∀k ok,(h.set r (.row sz aP xs true)).f k=some ok→ok.live=true→k≠r:=fun k ok hk hlk e=>by
    subst e
    simp only [aa.dD,if_true,Option.some.injEq] at hk
    subst hk
    simp [cI.live] at hlk
   have n1:=iw i oi ei li
   have n2:=iw j oj ej lj
   simp only [aa.dD,n1,n2,if_false] at ei ej
   exact hi.inj i j oi oj pi pj b ei ej li lj qi qj xH CO
 ·refine { Ev.refl κ h w with gC:=fun b hb=>.inl hb,F4:=fun b _ hx=>hx.imp id fun e=>(by rw [e]; exact own),own:=fun b _ nu=>?_,ids:=fun id q hq hn=>?_ }
  ·obtain ⟨i,o1,q,h1,h2,h3,h4⟩:=nu
   simp only [aa.dD] at h1
   split at h1
   ·cases h1; simp [cI.live] at h2
   ·exact ⟨i,o1,q,h1,h2,h3,h4⟩
  ·have:id≠r:=fun e=>by subst e; rw [ho] at hn; cases hn
   simp [this,hn]
def aa.union (h k:aa):aa:=⟨fun i=>match h.f i with | some o=>some o | none=>k.f i⟩
def aa.minus (h k:aa):aa:=⟨fun i=>match k.f i with | some _=>.none | .none=>h.f i⟩
theorem Inv.frame [aL] {κ κ':b9} {h h1 lL:aa} {w w':World} (hi:Inv κ h w) (hs:h1.sub h) (ku:Inv κ' lL w') (ev:Ev κ h1 w κ' lL w'):
  Inv κ' (lL.union (h.minus h1)) w'∧Ev κ h w κ' (lL.union (h.minus h1)) w'∧∀i,h.f i≠none→h1.f i=none→lL.f i=none:=by
 have le:=ev.le (hi.sub hs)
 have U0:∀i,h.f i≠none→h1.f i=none→lL.f i=none:=fun i iw hn=>by
  cases e:h.f i with
  | none=>exact absurd e iw
  | some o=>
   obtain ⟨p,hp,_⟩:=hi.obj i o e
   exact ev.ids i p hp hn
 have rest:∀i o,(lL.union (h.minus h1)).f i=some o→lL.f i=none→h.f i=some o∧h1.f i=none:=fun i o he hn=>by
  simp only [aa.union,hn,aa.minus] at he
  split at he
  ·cases he
  ·rename_i e; exact ⟨he,e⟩
 have NX:∀i o p b,h.f i=some o→h1.f i=none→κ.loc i=some p→o.live=true→Own o p b→¬lC κ h1 b:=fun i o p b e n q l lB ⟨j,oj,pj,ej,lj,qj,hb⟩=>by
  have:=hi.inj j i oj o pj p b (hs j oj ej) e lj l qj q hb lB
  subst this
  rw [n] at ej
  cases ej
 have qV:∀i o,h.f i=some o→h1.f i=none→∃p,κ'.loc i=some p∧κ.loc i=some p∧fX κ' w' p o:=fun i o e n=>by
  obtain ⟨p,hp,hr⟩:=hi.obj i o e
  refine ⟨p,ev.Li i p hp n,hp,?_⟩
  by_cases l:o.live=true
  ·have no:=fun b lB=>NX i o p b e n hp l lB
   exact hr.mono le (fun b lB=>ev.blocks b (hi.gz e hp lB) (no b lB)) fun b lB x=>(ev.F4 b (hi.gz e hp lB) x).resolve_right (no b lB)
  ·cases o with
   | row sz aP xs fz=>
    have hf:fz=true:=by simpa [cI.live] using l
    subst hf
    have hb:=le.gC _ (hr.2.2.2.1 rfl)
    exact hr.mono le (fun b lB=>by (have:=lB.zd (by simp)); subst this; exact hb.2) fun b lB _=>by (have:=lB.zd (by simp)); subst this; exact hr.2.2.2.1 rfl
   | _=>simp [cI.live] at l
 refine ⟨⟨ku.fb,ku.h_,ku.fresh,fun i o he=>?_,fun i j oi oj pi pj b ei ej li lj qi qj xH CO=>?_,ku.kz⟩,⟨ev.os,ev.tape,ev.output,ev.size,fun b hb xu=>ev.blocks b hb fun ho=>xu (ho.sub hs),ev.gC,fun b hb hx=>(ev.F4 b hb hx).imp id fun ho=>ho.sub hs,ev.loc,fun i p hp hn=>?_,fun b hb ho=>?_,fun i p hp hn=>?_⟩,U0⟩
 ·cases e:lL.f i with
  | some o'=>
   have:o'=o:=by simpa [aa.union,e] using he
   subst this
   exact ku.obj i o' e
  | none=>
   obtain ⟨a,b⟩:=rest i o he e
   obtain ⟨p,q,_,r⟩:=qV i o a b
   exact ⟨p,q,r⟩
 ·have YB:∀k ok pk b,lL.f k=some ok→ok.live=true→κ'.loc k=some pk→Own ok pk b→b<w.heap.size→lC κ h1 b:=fun k ok pk b e l q lB gY=>ev.own _ gY ⟨k,ok,pk,e,l,q,lB⟩
  have S8:∀k ok pk m om pm b,lL.f k=some ok→(lL.union (h.minus h1)).f m=some om→lL.f m=none→ok.live=true→om.live=true→κ'.loc k=some pk→κ'.loc m=some pm→Own ok pk b→Own om pm b→False:=fun k ok pk m om pm b ek em nm lk lm qk qm hbk hbm=>by
   obtain ⟨a,c⟩:=rest m om em nm
   obtain ⟨p,q1,q2,_⟩:=qV m om a c
   rw [qm] at q1
   cases q1
   have gY:=hi.gz a q2 hbm
   exact NX m om pm b a c q2 lm hbm (YB k ok pk b ek lk qk hbk gY)
  cases e1:lL.f i with
  | some o1=>
   have t1:o1=oi:=by simpa [aa.union,e1] using ei
   subst t1
   cases e2:lL.f j with
   | some o2=>
    have t2:o2=oj:=by simpa [aa.union,e2] using ej
    subst t2
    exact ku.inj i j o1 o2 pi pj b e1 e2 li lj qi qj xH CO
   | none=>exact (S8 i o1 pi j oj pj b e1 ej e2 li lj qi qj xH CO).elim
  | none=>
   cases e2:lL.f j with
   | some o2=>
    have t2:o2=oj:=by simpa [aa.union,e2] using ej
    subst t2
    exact (S8 j o2 pj i oi pi b e2 ei e1 lj li qj qi CO xH).elim
   | none=>
    obtain ⟨a,b'⟩:=rest i oi ei e1
    obtain ⟨c,d⟩:=rest j oj ej e2
    obtain ⟨p,q1,q2,_⟩:=qV i oi a b'
    obtain ⟨p',q1',q2',_⟩:=qV j oj c d
    rw [qi] at q1
    rw [qj] at q1'
    cases q1
    cases q1'
    exact hi.inj i j oi oj pi pj b a c li lj q2 q2' xH CO
 ·refine ev.Li i p hp ?_
  cases e:h1.f i with
  | none=>rfl
  | some o=>rw [hs i o e] at hn; cases hn
 ·obtain ⟨i,o,p,e,l,q,QG⟩:=ho
  cases e1:lL.f i with
  | some o1=>
   have t1:o1=o:=by simpa [aa.union,e1] using e
   subst t1
   exact (ev.own b hb ⟨i,o1,p,e1,l,q,QG⟩).sub hs
  | none=>
   obtain ⟨a,c⟩:=rest i o e e1
   obtain ⟨p',q1,q2,_⟩:=qV i o a c
   rw [q] at q1
   cases q1
   exact ⟨i,o,p,a,l,q2,QG⟩
 ·have n1:h1.f i=none:=by
   cases e:h1.f i with
   | none=>rfl
   | some o=>rw [hs i o e] at hn; cases hn
  simp [aa.union,aa.minus,ev.ids i p hp n1,n1,hn]
end Go.Proofs.YtpklkpkfgmoghaaGreatDoor.Zz
