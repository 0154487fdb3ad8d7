/- Values as plain data, an abstract heap, and how they stand to the model's values and worlds. -/
import Derived.CallsIn
import Derived.Laws.Sem
import Derived.Laws.World
import Derived.Laws.Strings
import Derived.Laws.AppendOwn
set_option linter.unnecessarySimpa false
set_option linter.unusedVariables false
set_option linter.unusedSimpArgs false
namespace Go.Proofs.YtpklkpkfgmoghaaGreatDoor.Zz
inductive D where
 | undef
 | bool (b:Bool)
 | int (k:IntKind) (n:Int)
 | float (k:FloatKind) (bits:Nat)
 | str (s:List UInt8)
 | gg
 | ptr (id aR off:Nat)
 | c8 (cells:List D) (off:Nat)
 | eM (r aR i f:Nat)
 | bg
 | sl (xs:List (List D))
 | row (r aR off len:Nat)
 | r7 (id off len:Nat)
 | agg (ds:List D)
 | tuple (ds:List D)
 | func (fn:Fn) (first cap:List D)
 | eU
 | iface (t:TypeId) (d:D)
 | fV
 | map (id:Nat)
 | iY
 | iter (id:Nat)
instance:Inhabited D:=⟨.undef⟩
structure Old where
 aR:Nat
 blk:Nat
 cap:Nat
 sz:Nat
 len:Nat
structure Place where
 blk:Nat
 base:Nat
 aR:Nat
 cap:Nat
 sz:Nat
 rc:Option Loop
 f9:List Old:=[]
 kV:∀e∈f9,e.aR<aR∧e.sz=sz:=by simp
def Place.new (blk base aR cap sz:Nat) (rc:Option Loop):Place:={ blk,base,aR,cap,sz,rc }
inductive Ex where
 | normal | ret | exit (id:Nat)
def Ex.code:Ex→Option Code
 | .normal=>none
 | .ret=>some .ret
 | .exit id=>some (.exit id)
inductive MU where
 | busy | done (e:Ex)
def MU.on (R:Loop):MU→Loop
 | .busy=>{ R with state:=.busy,pending:=none }
 | .done e=>{ R with state:=if e.code.isNone then .ready else .done,pending:=e.code }
inductive cR where
 | cells (ds:List D)
 | row (sz aR:Nat) (xs:List (List D)) (fz:Bool)
 | gb (sz aR:Nat) (xs:List (List D)) (f9:List (Nat×Nat))
 | map (es:List (D×D))
 | jR (s:List UInt8) (pos:Nat)
 | lp (st:MU)
 | Yc
 | other
def cR.live:cR→Bool
 | .row _ _ _ fz=> !fz
 | _=>true
structure aa where
 f:Nat→Option cR
def aa.emp:aa:=⟨fun _=>.none⟩
def aa.set (h:aa) (id:Nat) (o:cR):aa:=⟨fun i=>if i=id then some o else h.f i⟩
def aa.del (h:aa) (id:Nat):aa:=⟨fun i=>if i=id then .none else h.f i⟩
@[simp] theorem aa.NQ (i:Nat):aa.emp.f i=.none:=rfl
@[simp] theorem aa.dN (h:aa) (id i:Nat) (o:cR):(h.set id o).f i=if i=id then some o else h.f i:=rfl
@[simp] theorem aa.T1 (h:aa) (id i:Nat):(h.del id).f i=if i=id then .none else h.f i:=rfl
theorem aa.ext {h k:aa} (e:∀i,h.f i=k.f i):h=k:=by
 cases h; cases k; congr; exact funext e
theorem aa.set_set (h:aa) (id:Nat) (o p:cR):(h.set id o).set id p=h.set id p:=
 aa.ext fun i=>by simp only [aa.dN]; split<;>rfl
structure cp where
 gJ:Nat→Prop
 loc:Nat→Option Place
inductive cd (κ:cp) (w:World):Value→D→Prop
 | undef (v:Value):cd κ w v .undef
 | bool (b:Bool):cd κ w (.bool b) (.bool b)
 | int (k:IntKind) (n:Int):cd κ w (.int k n) (.int k n)
 | float (k:FloatKind) (n:Nat):cd κ w (.float k n) (.float k n)
 | str (s:List UInt8) (h:s.length≤9223372036854775807):cd κ w (.string ⟨s.toArray⟩) (.str s)
 | gg:cd κ w (.pointer none) .gg
 | ptr {id aR off:Nat} {p:Place} {a:Addr} (hl:κ.loc id=some p) (hv:aR≤p.aR) (ha:p.aR=aR→a=⟨p.blk,p.base+off,none⟩):cd κ w (.pointer (some a)) (.ptr id aR off)
 | c8 {b base off:Nat} {cells:List D} (f:Nat→Value) (hb:κ.gJ b) (hc:∀j d,cells[j]? =some d→w.cell? ⟨b,base+j,none⟩=some (f j)) (hr:∀j d,cells[j]? =some d→cd κ w (f j) d):
   cd κ w (.pointer (some ⟨b,base+off,none⟩)) (.c8 cells off)
 | eM {r aR i f:Nat} {p:Place} {a:Addr} (hl:κ.loc r=some p) (hv:aR≤p.aR) (ha:p.aR=aR→a=⟨p.blk,p.base+i*p.sz+f,none⟩):cd κ w (.pointer (some a)) (.eM r aR i f)
 | bg:cd κ w (.slice none 0 0) .bg
 | slnil {ba:Option Addr} {cap:Nat} (hb:ba=.none→cap=0):cd κ w (.slice ba 0 cap) (.sl [])
 | sl {b o sz cap:Nat} {xs:List (List D)} (f:Nat→Nat→Value) (hn:xs.length≤9223372036854775807) (dY:xs.length≤cap) (mU:∀x∈xs,x.length=sz)
   (hc:∀i x j d,xs[i]? =some x→x[j]? =some d→κ.gJ b∧w.cell? ⟨b,o+i*sz+j,none⟩=some (f i j)) (hr:∀i x j d,xs[i]? =some x→x[j]? =some d→cd κ w (f i j) d):
   cd κ w (.slice (some ⟨b,o,none⟩) xs.length cap) (.sl xs)
 | row {r aR off len cap:Nat} {p:Place} {a:Addr} (hl:κ.loc r=some p) (hv:aR≤p.aR) (hn:len≤9223372036854775807) (dY:len≤cap)
   (ha:p.aR=aR→cap=0∨(a=⟨p.blk,p.base+off*p.sz,none⟩∧off+cap=p.cap)) (hb:∀e∈p.f9,e.aR=aR→cap=0∨(a=⟨e.blk,off*e.sz,none⟩∧off+cap=e.cap)):cd κ w (.slice (some a) len cap) (.row r aR off len)
 | r7 {id off len cap:Nat} {p:Place} {a:Addr} (hl:κ.loc id=some p) (hv:1≤p.aR) (hn:len≤9223372036854775807) (dY:len≤cap)
   (ha:p.aR=1→cap=0∨a=⟨p.blk,p.base+off,none⟩):cd κ w (.slice (some a) len cap) (.r7 id off len)
 | agg {cs:Array Value} {ds:List D} (hs:cs.size=ds.length) (hr:∀i d,ds[i]? =some d→cd κ w (cs.getD i (.tuple #[])) d):cd κ w (.agg cs) (.agg ds)
 | tuple {cs:Array Value} {ds:List D} (hs:cs.size=ds.length) (hr:∀i d,ds[i]? =some d→cd κ w (cs.getD i (.tuple #[])) d):cd κ w (.tuple cs) (.tuple ds)
 | func {fn:Fn} {v1 v2:Array Value} {d1 d2:List D} (FN:v1.size=d1.length) (Yq:v2.size=d2.length) (Wq:∀i d,d1[i]? =some d→cd κ w (v1.getD i (.tuple #[])) d)
   (ZT:∀i d,d2[i]? =some d→cd κ w (v2.getD i (.tuple #[])) d):cd κ w (.func fn v1 v2) (.func fn d1 d2)
 | eU:cd κ w .nilFunc .eU
 | iface {t:TypeId} {v:Value} {d:D} (hr:cd κ w v d):cd κ w (.iface t v) (.iface t d)
 | fV:cd κ w .nilIface .fV
 | map {id:Nat} {p:Place} (hl:κ.loc id=some p) (hv:p.aR=1):cd κ w (.map (some p.blk)) (.map id)
 | iY:cd κ w (.map none) .iY
 | iter {id:Nat} {p:Place} (hl:κ.loc id=some p) (hv:p.aR=1):cd κ w (.pointer (some ⟨p.blk,0,none⟩)) (.iter id)
theorem cd.Ew {κ:cp} {w:World} {b o sz cap len:Nat} {xs:List (List D)} (e:len=xs.length) (f:Nat→Nat→Value) (hn:xs.length≤9223372036854775807) (dY:xs.length≤cap) (mU:∀x∈xs,x.length=sz)
   (hc:∀(i:Nat) (x:List D) (j:Nat) (d:D),xs[i]? =some x→x[j]? =some d→κ.gJ b∧w.cell? ⟨b,o+i*sz+j,none⟩=some (f i j)) (hr:∀(i:Nat) (x:List D) (j:Nat) (d:D),xs[i]? =some x→x[j]? =some d→cd κ w (f i j) d):
   cd κ w (.slice (some ⟨b,o,none⟩) len cap) (.sl xs):=by subst e; exact .sl f hn dY mU hc hr
structure qx (p p':Place):Prop where
 one:p.aR=1→p'=p
 lt:∀e∈p'.f9,e.aR<p.aR→e∈p.f9
 eq:∀e∈p'.f9,e.aR=p.aR→p'.aR≠p.aR→p.base=0∧e.blk=p.blk∧e.cap=p.cap∧e.sz=p.sz
theorem qx.refl (p:Place):qx p p:=⟨fun _=>rfl,fun _ h _=>h,fun _ _ _ h=>absurd rfl h⟩
theorem qx.OI {p p':Place} (h:p.aR≠1) (e:p'.f9=[]):qx p p':=
 ⟨fun x=>absurd x h,fun x hx=>by (rw [e] at hx; cases hx),fun x hx=>by (rw [e] at hx; cases hx)⟩
theorem qx.trans {p p1 p2:Place} (a:qx p p1) (b:qx p1 p2) (l1:p.aR≤p1.aR) (s1:p1.aR=p.aR→p1=p):qx p p2:=by
 refine ⟨fun e=>?_,fun e he hv=>a.lt e (b.lt e he (Nat.lt_of_lt_of_le hv l1)) hv,fun e he hv hn=>?_⟩
 ·have:=a.one e; subst this; exact b.one e
 ·by_cases c:p1.aR=p.aR
  ·have:=s1 c; subst this; exact b.eq e he hv hn
  ·exact a.eq e (b.lt e he (by omega)) hv c
structure Le (κ:cp) (w:World) (κ':cp) (w':World):Prop where
 gJ:∀b,κ.gJ b→κ'.gJ b∧w'.heap[b]? =w.heap[b]?
 loc:∀id p,κ.loc id=some p→∃p',κ'.loc id=some p'∧p.aR≤p'.aR∧(p'.aR=p.aR→p'=p)∧qx p p'
theorem Le.refl (κ:cp) (w:World):Le κ w κ w:=⟨fun _ h=>⟨h,rfl⟩,fun _ p h=>⟨p,h,Nat.le_refl _,fun _=>rfl,qx.refl p⟩⟩
theorem cd.mono {κ κ':cp} {w w':World} {v:Value} {d:D} (h:cd κ w v d) (le:Le κ w κ' w'):cd κ' w' v d:=by
 induction h with
 | undef v=>exact .undef v
 | bool b=>exact .bool b
 | int k n=>exact .int k n
 | float k n=>exact .float k n
 | str s h=>exact .str s h
 | gg=>exact .gg
 | ptr hl hv ha=>
  obtain ⟨p',h1,h2,h3,_⟩:=le.loc _ _ hl
  exact .ptr h1 (Nat.le_trans hv h2) fun e=>by
   have e':p'.aR=_:=Nat.le_antisymm (e▸hv) h2
   rw [h3 e']; exact ha (by rw [←e',e])
 | c8 f hb hc hr ih=>
  exact .c8 f (le.gJ _ hb).1 (fun j d hj=>by rw [World.cell?_of_block (w:=w) (le.gJ _ hb).2]; exact hc j d hj) ih
 | eM hl hv ha=>
  obtain ⟨p',h1,h2,h3,_⟩:=le.loc _ _ hl
  exact .eM h1 (Nat.le_trans hv h2) fun e=>by
   have e':p'.aR=_:=Nat.le_antisymm (e▸hv) h2
   rw [h3 e']; exact ha (by rw [←e',e])
 | bg=>exact .bg
 | slnil hb=>exact .slnil hb
 | sl f hn dY mU hc hr ih=>
  exact .sl f hn dY mU (fun i x j d hi hj=>by
   obtain ⟨h1,h2⟩:=hc i x j d hi hj
   exact ⟨(le.gJ _ h1).1,by rw [World.cell?_of_block (w:=w) (le.gJ _ h1).2]; exact h2⟩) ih
 | row hl hv hn dY ha hb=>
  ab r aR off len cap p a
  obtain ⟨p',h1,h2,h3,h4⟩:=le.loc _ _ hl
  refine .row h1 (Nat.le_trans hv h2) hn dY (fun e=>?_) fun e he Yh=>?_
  ·have e':p'.aR=_:=Nat.le_antisymm (e▸hv) h2
   rw [h3 e']; exact ha (by rw [←e',e])
  ·by_cases c:aR<p.aR
   ·exact hb e (h4.lt e he (by omega)) Yh
   ·have hpv:p.aR=aR:=by omega
    by_cases c2:p'.aR=p.aR
    ·have:=h3 c2; subst this; exact hb e he Yh
    ·obtain ⟨q1,q2,q3,q4⟩:=h4.eq e he (by omega) c2
     rcases ha hpv with k | ⟨k1,k2⟩
     ·exact .inl k
     ·exact .inr ⟨by rw [k1,q1,q2,q4,Nat.zero_add],by rw [q3]; exact k2⟩
 | r7 hl hv hn dY ha=>
  obtain ⟨p',h1,h2,h3,_⟩:=le.loc _ _ hl
  exact .r7 h1 (Nat.le_trans hv h2) hn dY fun e=>by
   have e':p'.aR=_:=Nat.le_antisymm (e▸hv) h2
   rw [h3 e']; exact ha (by rw [←e',e])
 | agg hs hr ih=>exact .agg hs ih
 | tuple hs hr ih=>exact .tuple hs ih
 | func FN Yq Wq ZT ih1 ih2=>exact .func FN Yq ih1 ih2
 | eU=>exact .eU
 | iface hr ih=>exact .iface ih
 | fV=>exact .fV
 | map hl hv=>
  obtain ⟨p',h1,h2,h3,h4⟩:=le.loc _ _ hl
  have:=h4.one hv
  subst this
  exact .map h1 hv
 | iY=>exact .iY
 | iter hl hv=>
  obtain ⟨p',h1,h2,h3,h4⟩:=le.loc _ _ hl
  have:=h4.one hv
  subst this
  exact .iter h1 hv
def kM (κ:cp) (w:World) (b sz cap:Nat) (xs:List (List D)):Prop:=
 ∃(cs:Array Value) (t:TypeId),w.heap[b]? =some (.cells cs t (0,0))∧cap*sz≤cs.size∧
  ∀(i:Nat) (x:List D) (j:Nat) (d:D),xs[i]? =some x→x[j]? =some d→∃v,cs[i*sz+j]? =some v∧cd κ w v d
def gf (κ:cp) (w:World) (p:Place):cR→Prop
 | .cells ds=>p.aR=1∧p.base=0∧¬κ.gJ p.blk∧∃(cs:Array Value) (t:TypeId),w.heap[p.blk]? =some (.cells cs t (0,0))∧cs.size=ds.length∧∀(i:Nat) (d:D),ds[i]? =some d→∃v,cs[i]? =some v∧cd κ w v d
 | .row sz aR xs fz=>p.aR=aR∧2≤aR∧p.sz=sz∧(fz=true→κ.gJ p.blk)∧(fz=false→¬κ.gJ p.blk)∧xs.length≤p.cap∧p.cap≤9223372036854775807∧(∀x∈xs,x.length=sz)∧
   ∃(cs:Array Value) (t:TypeId),w.heap[p.blk]? =some (.cells cs t (0,0))∧p.base+p.cap*sz≤cs.size∧
    ∀(i:Nat) (x:List D) (j:Nat) (d:D),xs[i]? =some x→x[j]? =some d→∃v,cs[p.base+i*sz+j]? =some v∧cd κ w v d
 | .gb sz aR xs f9=>p.aR=aR∧2≤aR∧p.sz=sz∧¬κ.gJ p.blk∧p.base=0∧xs.length≤p.cap∧p.cap≤9223372036854775807∧(∀x∈xs,x.length=sz)∧kM κ w p.blk sz p.cap xs∧
   p.f9.map (fun e=>(e.aR,e.len))=f9∧(∀e∈p.f9,2≤e.aR∧e.aR<aR∧e.sz=sz∧¬κ.gJ e.blk∧e.len≤e.cap∧e.cap≤9223372036854775807∧e.len≤xs.length∧kM κ w e.blk sz e.cap (xs.take e.len))∧
   p.f9.Pairwise (fun a b=>b.aR<a.aR∧b.len≤a.len)
 | .map es=>p.aR=1∧¬κ.gJ p.blk∧∃(ms:Array MapEntry) (clock:Nat),w.heap[p.blk]? =some (.map ms clock)∧ms.size=es.length∧∀(i:Nat) (kv:D×D),es[i]? =some kv→∃m:MapEntry,ms[i]? =some m∧cd κ w m.key kv.1∧cd κ w m.val kv.2
 | .jR s pos=>p.aR=1∧¬κ.gJ p.blk∧w.heap[p.blk]? =some (.stringIter ⟨s.toArray⟩ pos)
 | .lp st=>p.aR=1∧¬κ.gJ p.blk∧∃R,p.rc=some R∧w.heap[p.blk]? =some (.loop (st.on R))
 | .Yc=>p.aR=1∧¬κ.gJ p.blk∧w.heap[p.blk]? =some (.deferred (some []))
 | .other=>p.aR=1∧¬κ.gJ p.blk
class aN where
 of:Nat→Option (List D)
 ints:Nat→Option IntKind
structure gn [aN] (κ:cp) (w:World):Prop where
 of:∀g ds,aN.of g=some ds→κ.gJ g∧∃(cs:Array Value) (t:TypeId),w.heap[g]? =some (.cells cs t (0,0))∧cs.size=ds.length∧∀(j:Nat) (d:D),ds[j]? =some d→∃v,cs[j]? =some v∧cd κ w v d
 ints:∀g k,aN.ints g=some k→κ.gJ g∧∃m:Int,w.cell? ⟨g,0,none⟩=some (.int k m)
theorem gn.mono [aN] {κ κ':cp} {w w':World} (h:gn κ w) (le:Le κ w κ' w'):gn κ' w':=by
 constructor
 ·intro g ds e
  obtain ⟨h1,cs,t,h2,h3,h4⟩:=h.of g ds e
  refine ⟨(le.gJ g h1).1,cs,t,(le.gJ g h1).2.trans h2,h3,fun j d hj=>?_⟩
  obtain ⟨v,h5,h6⟩:=h4 j d hj
  exact ⟨v,h5,h6.mono le⟩
 ·intro g k e
  obtain ⟨h1,m,h2⟩:=h.ints g k e
  exact ⟨(le.gJ g h1).1,m,by rw [World.cell?_of_block (w:=w) (le.gJ g h1).2]; exact h2⟩
theorem gn.rep [aN] {κ:cp} {w:World} (h:gn κ w) {g:Nat} {ds:List D} (e:aN.of g=some ds):cd κ w (.pointer (some ⟨g,0,none⟩)) (.c8 ds 0):=by
 obtain ⟨h1,cs,t,h2,h3,h4⟩:=h.of g ds e
 have:=cd.c8 (κ:=κ) (w:=w) (b:=g) (base:=0) (off:=0) (cells:=ds) (fun j=>cs.getD j (.tuple #[])) h1 (fun j d hj=>by
  obtain ⟨v,h5,_⟩:=h4 j d hj
  simp [World.cell?,h2,h5,Array.getD_eq_getD_getElem?]) (fun j d hj=>by
  obtain ⟨v,h5,h6⟩:=h4 j d hj
  show cd κ w (cs.getD j (.tuple #[])) d
  rw [Array.getD_eq_getD_getElem?,h5]
  exact h6)
 simpa using this
def cR.kH (o:cR) (p:Place):List Old:=match o with
 | .gb .. =>p.f9
 | _=>[]
def mg (o:cR) (p:Place) (b:Nat):Prop:=p.blk=b∨∃e∈o.kH p,e.blk=b
theorem mg.GL {o:cR} {p:Place} {b:Nat} (h:mg o p b) (e:p.f9=[]):p.blk=b:=by
 rcases h with h | ⟨x,hx,_⟩
 ·exact h
 ·exfalso
  cases o with
  | gb sz aR xs f9=>simp [cR.kH,e] at hx
  | _=>cases hx
theorem mg.self {o:cR} {p:Place}:mg o p p.blk:=.inl rfl
structure Inv [aN] (κ:cp) (h:aa) (w:World):Prop where
 fl:∀b,κ.gJ b→b<w.heap.size
 ij:∀id p,κ.loc id=some p→p.blk<w.heap.size
 fresh:∃N,∀id,N≤id→κ.loc id=none
 obj:∀id o,h.f id=some o→∃p,κ.loc id=some p∧gf κ w p o
 inj:∀i j oi oj pi pj b,h.f i=some oi→h.f j=some oj→oi.live=true→oj.live=true→κ.loc i=some pi→κ.loc j=some pj→mg oi pi b→mg oj pj b→i=j
 kG:gn κ w
def lJ (κ:cp) (h:aa) (b:Nat):Prop:=∃id o p,h.f id=some o∧o.live=true∧κ.loc id=some p∧mg o p b
theorem gf.SB {κ:cp} {w:World} {p:Place} {o:cR} (h:gf κ w p o) (hl:o.live=true) {b:Nat} (hb:mg o p b):¬κ.gJ b:=by
 rcases hb with rfl | ⟨e,he,rfl⟩
 ·cases o with
  | cells ds=>exact h.2.2.1
  | row sz aR xs fz=>exact h.2.2.2.2.1 (by simpa [cR.live] using hl)
  | gb sz aR xs f9=>exact h.2.2.2.1
  | map es=>exact h.2.1
  | jR s pos=>exact h.2.1
  | lp st=>exact h.2.1
  | Yc=>exact h.2.1
  | other=>exact h.2
 ·cases o with
  | gb sz aR xs f9=>
   obtain ⟨_,_,_,_,_,_,_,_,_,_,k,_⟩:=h
   exact (k e he).2.2.2.1
  | _=>cases he
theorem gf.gF {κ:cp} {w:World} {p:Place} {o:cR} (h:gf κ w p o) (hp:p.blk<w.heap.size) {b:Nat} (hb:mg o p b):b<w.heap.size:=by
 rcases hb with rfl | ⟨e,he,rfl⟩
 ·exact hp
 ·cases o with
  | gb sz aR xs f9=>
   obtain ⟨_,_,_,_,_,_,_,_,_,_,k,_⟩:=h
   obtain ⟨_,_,_,_,_,_,_,cs,t,hc,_⟩:=k e he
   exact (Array.getElem?_eq_some_iff.1 hc).1
  | _=>cases he
theorem Inv.gF [aN] {κ:cp} {h:aa} {w:World} (hi:Inv κ h w) {id:Nat} {o:cR} {p:Place} (ho:h.f id=some o) (hp:κ.loc id=some p) {b:Nat} (hb:mg o p b):b<w.heap.size:=by
 obtain ⟨p',h1,h2⟩:=hi.obj id o ho
 rw [hp] at h1
 cases h1
 exact h2.gF (hi.ij id p hp) hb
theorem Inv.jj [aN] {κ:cp} {h:aa} {w:World} (hi:Inv κ h w) {b:Nat} (ho:lJ κ h b):¬κ.gJ b:=by
 obtain ⟨id,o,p,h1,h2,h3,hb⟩:=ho
 obtain ⟨p',h4,h5⟩:=hi.obj id o h1
 rw [h3] at h4
 cases h4
 exact h5.SB h2 hb
structure Ev (κ:cp) (h:aa) (w:World) (κ':cp) (h':aa) (w':World):Prop where
 os:w'.os=w.os
 tape:w'.tape=w.tape
 output:w'.output=w.output
 size:w.heap.size≤w'.heap.size
 blocks:∀b,b<w.heap.size→¬lJ κ h b→w'.heap[b]? =w.heap[b]?
 gJ:∀b,κ.gJ b→κ'.gJ b
 Gu:∀b,b<w.heap.size→κ'.gJ b→κ.gJ b∨lJ κ h b
 loc:∀id p,κ.loc id=some p→∃p',κ'.loc id=some p'∧p.aR≤p'.aR∧(p'.aR=p.aR→p'=p)∧qx p p'
 LS:∀id p,κ.loc id=some p→h.f id=none→κ'.loc id=some p
 own:∀b,b<w.heap.size→lJ κ' h' b→lJ κ h b
 ids:∀id p,κ.loc id=some p→h.f id=none→h'.f id=none
theorem Ev.refl (κ:cp) (h:aa) (w:World):Ev κ h w κ h w:=
 ⟨rfl,rfl,rfl,Nat.le_refl _,fun _ _ _=>rfl,fun _ h=>h,fun _ _ h=>.inl h,fun _ p h=>⟨p,h,Nat.le_refl _,fun _=>rfl,qx.refl p⟩,fun _ _ h _=>h,fun _ _ h=>h,fun _ _ _ h=>h⟩
theorem Ev.trans {κ κ1 κ2:cp} {h h1 h2:aa} {w w1 w2:World} (a:Ev κ h w κ1 h1 w1) (b:Ev κ1 h1 w1 κ2 h2 w2):Ev κ h w κ2 h2 w2 where
 os:=b.os.trans a.os
 tape:=b.tape.trans a.tape
 output:=b.output.trans a.output
 size:=Nat.le_trans a.size b.size
 blocks:=fun x hx ho=>(b.blocks x (Nat.lt_of_lt_of_le hx a.size) (fun h=>ho (a.own x hx h))).trans (a.blocks x hx ho)
 gJ:=fun x hx=>b.gJ x (a.gJ x hx)
 Gu:=fun x hx hi=>by
  rcases b.Gu x (Nat.lt_of_lt_of_le hx a.size) hi with h | h
  ·exact a.Gu x hx h
  ·exact .inr (a.own x hx h)
 loc:=fun id p hp=>by
  obtain ⟨p1,e1,l1,s1,t1⟩:=a.loc id p hp
  obtain ⟨p2,e2,l2,s2,t2⟩:=b.loc id p1 e1
  refine ⟨p2,e2,Nat.le_trans l1 l2,fun e=>?_,t1.trans t2 l1 s1⟩
  have:p1.aR=p.aR:=Nat.le_antisymm (e▸l2) l1
  rw [s2 (e.trans this.symm),s1 this]
 LS:=fun id p hp hn=>b.LS id p (a.LS id p hp hn) (a.ids id p hp hn)
 own:=fun x hx h=>a.own x hx (b.own x (Nat.lt_of_lt_of_le hx a.size) h)
 ids:=fun id p hp hn=>b.ids id p (a.LS id p hp hn) (a.ids id p hp hn)
theorem Ev.le [aN] {κ κ':cp} {h h':aa} {w w':World} (e:Ev κ h w κ' h' w') (hi:Inv κ h w):Le κ w κ' w':=
 ⟨fun b hb=>⟨e.gJ b hb,e.blocks b (hi.fl b hb) fun ho=>hi.jj ho hb⟩,e.loc⟩
def aa.sub (h' h:aa):Prop:=∀id o,h'.f id=some o→h.f id=some o
theorem aa.aU (h:aa):h.sub h:=fun _ _ e=>e
theorem aa.jb (h:aa):aa.emp.sub h:=fun _ _ e=>by simp at e
theorem Inv.sub [aN] {κ:cp} {h h':aa} {w:World} (hi:Inv κ h w) (hs:h'.sub h):Inv κ h' w:=
 ⟨hi.fl,hi.ij,hi.fresh,fun id o e=>hi.obj id o (hs id o e),fun i j oi oj pi pj b e1 e2=>hi.inj i j oi oj pi pj b (hs i oi e1) (hs j oj e2),hi.kG⟩
theorem lJ.sub {κ:cp} {h h':aa} {b:Nat} (ho:lJ κ h' b) (hs:h'.sub h):lJ κ h b:=by
 obtain ⟨id,o,p,h1,h2⟩:=ho
 exact ⟨id,o,p,hs id o h1,h2⟩
theorem mg.zD {o:cR} {p:Place} {b:Nat} (h:mg o p b) (ho:∀sz aR xs f9,o≠.gb sz aR xs f9):p.blk=b:=by
 rcases h with h | ⟨e,he,_⟩
 ·exact h
 ·cases o with
  | gb sz aR xs f9=>exact absurd rfl (ho sz aR xs f9)
  | _=>cases he
theorem kM.mono {κ κ':cp} {w w':World} {b sz cap:Nat} {xs:List (List D)} (h:kM κ w b sz cap xs) (le:Le κ w κ' w') (hb:w'.heap[b]? =w.heap[b]?):kM κ' w' b sz cap xs:=by
 obtain ⟨cs,t,h1,h2,h3⟩:=h
 exact ⟨cs,t,hb.trans h1,h2,fun i x j d hx hj=>let ⟨v,e,r⟩:=h3 i x j d hx hj; ⟨v,e,r.mono le⟩⟩
theorem Ev.sub {κ κ':cp} {h h' kQ:aa} {w w':World} (e:Ev κ h w κ' h' w') (hs:kQ.sub h'):Ev κ h w κ' kQ w':=
 { e with
  own:=fun b hb ho=>e.own b hb (ho.sub hs)
  ids:=fun id p hp hn=>by
   cases hh:kQ.f id with
   | none=>rfl
   | some o=>rw [←e.ids id p hp hn,hs id o hh] }
end Go.Proofs.YtpklkpkfgmoghaaGreatDoor.Zz
namespace Go.Proofs.YtpklkpkfgmoghaaGreatDoor.Zz
theorem gf.mono {κ κ':cp} {w w':World} {p:Place} {o:cR} (h:gf κ w p o) (le:Le κ w κ' w') (hbs:∀b,mg o p b→w'.heap[b]? =w.heap[b]?) (his:∀b,mg o p b→κ'.gJ b→κ.gJ b):gf κ' w' p o:=by
 have hb:=hbs p.blk mg.self
 have hi:=his p.blk mg.self
 cases o with
 | gb sz aR xs f9=>
  obtain ⟨h1,h2,h3,h4,h5,h6,h7,h8,h9,Ye,R5,Rt⟩:=h
  refine ⟨h1,h2,h3,fun x=>h4 (hi x),h5,h6,h7,h8,h9.mono le hb,Ye,fun e he=>?_,Rt⟩
  obtain ⟨k1,k2,k3,k4,k5,k6,k7,k8⟩:=R5 e he
  exact ⟨k1,k2,k3,fun x=>k4 (his _ (.inr ⟨e,he,rfl⟩) x),k5,k6,k7,k8.mono le (hbs _ (.inr ⟨e,he,rfl⟩))⟩
 | cells ds=>
  obtain ⟨h1,h2,h3,cs,t,h4,h5,h6⟩:=h
  exact ⟨h1,h2,fun x=>h3 (hi x),cs,t,hb.trans h4,h5,fun i d hd=>let ⟨v,e,r⟩:=h6 i d hd; ⟨v,e,r.mono le⟩⟩
 | row sz aR xs fz=>
  obtain ⟨h1,lT,h2,h3,h4,h5,Bi,h6,cs,t,h7,h8,h9⟩:=h
  exact ⟨h1,lT,h2,fun e=>(le.gJ _ (h3 e)).1,fun e x=>h4 e (hi x),h5,Bi,h6,cs,t,hb.trans h7,h8,fun i x j d hx hj=>let ⟨v,e,r⟩:=h9 i x j d hx hj; ⟨v,e,r.mono le⟩⟩
 | map es=>
  obtain ⟨h1,h2,ms,cl,h3,h4,h5⟩:=h
  exact ⟨h1,fun x=>h2 (hi x),ms,cl,hb.trans h3,h4,fun i kv hk=>let ⟨m,e,r1,r2⟩:=h5 i kv hk; ⟨m,e,r1.mono le,r2.mono le⟩⟩
 | jR s pos=>exact ⟨h.1,fun x=>h.2.1 (hi x),hb.trans h.2.2⟩
 | lp st=>obtain ⟨h1,h2,R,h3,h4⟩:=h; exact ⟨h1,fun x=>h2 (hi x),R,h3,hb.trans h4⟩
 | Yc=>exact ⟨h.1,fun x=>h.2.1 (hi x),hb.trans h.2.2⟩
 | other=>exact ⟨h.1,fun x=>h.2 (hi x)⟩
theorem Le.of_heap {κ:cp} {w w':World} (e:w'.heap=w.heap):Le κ w κ w':=⟨fun _ h=>⟨h,by rw [e]⟩,(Le.refl κ w).loc⟩
theorem Inv.of_heap [aN] {κ:cp} {h:aa} {w w':World} (hi:Inv κ h w) (e:w'.heap=w.heap):Inv κ h w':=
 ⟨fun b hb=>by rw [e]; exact hi.fl b hb,fun id p hp=>by rw [e]; exact hi.ij id p hp,hi.fresh,
  fun id o ho=>let ⟨p,h1,h2⟩:=hi.obj id o ho; ⟨p,h1,h2.mono (Le.of_heap e) (fun b _=>by rw [e]) fun _ _ x=>x⟩,hi.inj,hi.kG.mono (Le.of_heap e)⟩
theorem Ev.of_heap {κ:cp} {h:aa} {w w':World} (e:w'.heap=w.heap) (e1:w'.os=w.os) (e2:w'.tape=w.tape) (e3:w'.output=w.output):Ev κ h w κ h w':=
 { Ev.refl κ h w with os:=e1,tape:=e2,output:=e3,size:=by rw [e]; exact Nat.le_refl _,blocks:=fun _ _ _=>by rw [e] }
theorem Inv.sB [aN] {κ:cp} {h:aa} {w:World} (hi:Inv κ h w):∃id,κ.loc id=none∧h.f id=none:=by
 obtain ⟨N,hN⟩:=hi.fresh
 refine ⟨N,hN N (Nat.le_refl _),?_⟩
 cases e:h.f N with
 | none=>rfl
 | some o=>
  obtain ⟨p,hp,_⟩:=hi.obj N o e
  rw [hN N (Nat.le_refl _)] at hp
  cases hp
def cp.put (κ:cp) (id:Nat) (p:Place):cp:={ κ with loc:=fun i=>if i=id then some p else κ.loc i }
theorem heap_alloc_old (w:World) (o:Obj) {b:Nat} (hb:b<w.heap.size):(w.alloc o).heap[b]? =w.heap[b]? :=by
 show (w.heap.push o)[b]? =_
 rw [Array.getElem?_push,if_neg (by omega)]
theorem dq (w:World) (o:Obj):(w.alloc o).heap[w.heap.size]? =some o:=by
 show (w.heap.push o)[w.heap.size]? =_
 simp
theorem Le.alloc [aN] {κ:cp} {h:aa} {w:World} (hi:Inv κ h w) (o:Obj) {id:Nat} (fE:κ.loc id=none) (p:Place):Le κ w (κ.put id p) (w.alloc o):=
 ⟨fun b hb=>⟨hb,heap_alloc_old w o (hi.fl b hb)⟩,fun i q hq=>⟨q,by
  have:i≠id:=fun e=>by subst e; rw [fE] at hq; cases hq
  simp [cp.put,this,hq],Nat.le_refl _,fun _=>rfl,qx.refl q⟩⟩
theorem Inv.alloc [aN] {κ:cp} {h:aa} {w:World} (hi:Inv κ h w) {id:Nat} (fE:κ.loc id=none) (hf:h.f id=none) (ob:Obj) (o:cR) (p:Place) (hp:p.blk=w.heap.size) (Yp:p.f9=[])
  (hl:o.live=true) (hr:gf (κ.put id p) (w.alloc ob) p o):Inv (κ.put id p) (h.set id o) (w.alloc ob)∧Ev κ h w (κ.put id p) (h.set id o) (w.alloc ob):=by
 have le:=Le.alloc (κ:=κ) hi ob fE p
 have f9:∀i q,κ.loc i=some q→i≠id:=fun i q hq e=>by subst e; rw [fE] at hq; cases hq
 constructor
 ·refine ⟨fun b hb=>?_,fun i q hq=>?_,?_,fun i o' nK=>?_,fun i j oi oj pi pj b ei ej li lj qi qj xY C_=>?_,hi.kG.mono le⟩
  ·have:=hi.fl b hb
   simp; omega
  ·simp only [cp.put] at hq
   split at hq
   ·cases hq; simp; omega
   ·have:=hi.ij i q hq
    simp; omega
  ·obtain ⟨N,hN⟩:=hi.fresh
   refine ⟨max N (id+1),fun i hle=>?_⟩
   have:i≠id:=by omega
   simp only [cp.put,this,if_false]
   exact hN i (by omega)
  ·simp only [aa.dN] at nK
   split at nK
   ·ab e
    cases nK
    exact ⟨p,by simp [cp.put,e],hr⟩
   ·ab e
    obtain ⟨q,hq,Of⟩:=hi.obj i o' nK
    exact ⟨q,by simp [cp.put,e,hq],Of.mono le (fun b hb=>heap_alloc_old w ob (hi.gF nK hq hb)) fun _ _ x=>x⟩
  ·simp only [aa.dN,cp.put] at ei ej qi qj
   by_cases e1:i=id<;>by_cases e2:j=id
   ·rw [e1,e2]
   ·simp only [e1,e2,if_true,if_false,Option.some.injEq] at qi qj ej
    have:=hi.gF ej qj C_
    subst qi
    have:=xY.GL Yp
    omega
   ·simp only [e1,e2,if_true,if_false,Option.some.injEq] at qi qj ei
    have:=hi.gF ei qi xY
    subst qj
    have:=C_.GL Yp
    omega
   ·simp only [e1,e2,if_false] at ei ej qi qj
    exact hi.inj i j oi oj pi pj b ei ej li lj qi qj xY C_
 ·refine ⟨rfl,rfl,rfl,by simp,fun b hb _=>heap_alloc_old w ob hb,fun _ h=>h,fun _ _ h=>.inl h,le.loc,fun i q hq _=>by simp [cp.put,f9 i q hq,hq],fun b hb ho=>?_,fun i q hq hn=>by simp [f9 i q hq,hn]⟩
  obtain ⟨i,o',q,h1,h2,h3,h4⟩:=ho
  simp only [aa.dN,cp.put] at h1 h3
  by_cases e:i=id
  ·simp only [e,if_true,Option.some.injEq] at h3
   subst h3
   have:=h4.GL Yp
   omega
  ·simp only [e,if_false] at h1 h3
   exact ⟨i,o',q,h1,h2,h3,h4⟩
theorem Inv.K_ [aN] {κ:cp} {h:aa} {w:World} (hi:Inv κ h w) (ob:Obj):
  Inv { κ with gJ:=fun b=>κ.gJ b∨b=w.heap.size } h (w.alloc ob)∧Ev κ h w { κ with gJ:=fun b=>κ.gJ b∨b=w.heap.size } h (w.alloc ob):=by
 have le:Le κ w { κ with gJ:=fun b=>κ.gJ b∨b=w.heap.size } (w.alloc ob):=
  ⟨fun b hb=>⟨.inl hb,heap_alloc_old w ob (hi.fl b hb)⟩,(Le.refl κ w).loc⟩
 constructor
 ·refine ⟨fun b hb=>?_,fun i q hq=>?_,hi.fresh,fun i o' nK=>?_,hi.inj,hi.kG.mono le⟩
  ·rcases hb with hb | hb
   ·have:=hi.fl b hb
    simp; omega
   ·simp; omega
  ·have:=hi.ij i q hq
   simp; omega
  ·obtain ⟨q,hq,Of⟩:=hi.obj i o' nK
   exact ⟨q,hq,Of.mono le (fun b hb=>heap_alloc_old w ob (hi.gF nK hq hb)) fun b hb x=>x.resolve_right (by have:=hi.gF nK hq hb; omega)⟩
 ·exact { Ev.refl κ h w with
   size:=by simp
   blocks:=fun b hb _=>heap_alloc_old w ob hb
   gJ:=fun b hb=>.inl hb
   Gu:=fun b hb hx=>.inl (hx.resolve_right (by omega)) }
theorem Inv.uQ [aN] {κ:cp} {h:aa} {w w':World} (hi:Inv κ h w) {id:Nat} {o o':cR} {p p':Place} (ho:h.f id=some o) (hp:κ.loc id=some p) (hl:o.live=true) (Se:o'.live=true)
  (mU:w.heap.size≤w'.heap.size) (Od:p'.blk<w'.heap.size) (N6:∀b,mg o' p' b→mg o p b∨w.heap.size≤b) (Ww:p.aR≤p'.aR) (uU:p'.aR=p.aR→p'=p) (hv2:qx p p')
  (e1:w'.os=w.os) (e2:w'.tape=w.tape) (e3:w'.output=w.output)
  (hb:∀b,b<w.heap.size→¬mg o p b→w'.heap[b]? =w.heap[b]?) (hr:gf (κ.put id p') w' p' o'):
  Inv (κ.put id p') (h.set id o') w'∧Ev κ h w (κ.put id p') (h.set id o') w':=by
 have own:∀b,mg o p b→lJ κ h b:=fun b hb=>⟨id,o,p,ho,hl,hp,hb⟩
 have le:Le κ w (κ.put id p') w':=by
  refine ⟨fun b xY=>⟨xY,hb b (hi.fl b xY) fun e=>hi.jj (own b e) xY⟩,fun i q hq=>?_⟩
  by_cases e:i=id
  ·subst e
   rw [hp] at hq
   cases hq
   exact ⟨p',by simp [cp.put],Ww,uU,hv2⟩
  ·exact ⟨q,by simp [cp.put,e,hq],Nat.le_refl _,fun _=>rfl,qx.refl q⟩
 constructor
 ·refine ⟨fun b Ru=>?_,fun i q hq=>?_,?_,fun i o1 xZ=>?_,fun i j oi oj pi pj b ei ej li lj qi qj xY C_=>?_,hi.kG.mono le⟩
  ·have:=hi.fl b Ru
   omega
  ·simp only [cp.put] at hq
   split at hq
   ·cases hq; exact Od
   ·have:=hi.ij i q hq
    omega
  ·obtain ⟨N,hN⟩:=hi.fresh
   refine ⟨N,fun i hle=>?_⟩
   have:i≠id:=fun e=>by subst e; rw [hN i hle] at hp; cases hp
   simp only [cp.put,this,if_false]
   exact hN i hle
  ·simp only [aa.dN] at xZ
   split at xZ
   ·ab e
    cases xZ
    exact ⟨p',by simp [cp.put,e],hr⟩
   ·ab e
    obtain ⟨q,hq,Of⟩:=hi.obj i o1 xZ
    refine ⟨q,by simp [cp.put,e,hq],Of.mono le (fun b lI=>?_) fun _ _ x=>x⟩
    refine hb b (hi.gF xZ hq lI) fun eb=>?_
    by_cases LI:o1.live=true
    ·exact e (hi.inj i id o1 o q p b xZ ho LI hl hq hp lI eb)
    ·have:κ.gJ b:=by
      cases o1 with
      | row sz aR xs fz=>
       have hbb:=lI.zD (by simp)
       exact hbb▸Of.2.2.2.1 (by simpa [cR.live] using LI)
      | _=>simp [cR.live] at LI
     exact hi.jj (own b eb) this
  ·simp only [aa.dN,cp.put] at ei ej qi qj
   by_cases e1:i=id<;>by_cases e2:j=id
   ·rw [e1,e2]
   ·simp only [e1,e2,if_true,if_false,Option.some.injEq] at ei ej qi qj
    subst qi ei
    rcases N6 b xY with hk | hk
    ·exact absurd (hi.inj id j o oj p pj b ho ej hl lj hp qj hk C_) (Ne.symm e2)
    ·have:=hi.gF ej qj C_
     omega
   ·simp only [e1,e2,if_true,if_false,Option.some.injEq] at ei ej qi qj
    subst qj ej
    rcases N6 b C_ with hk | hk
    ·exact absurd (hi.inj i id oi o pi p b ei ho li hl qi hp xY hk) e1
    ·have:=hi.gF ei qi xY
     omega
   ·simp only [e1,e2,if_false] at ei ej qi qj
    exact hi.inj i j oi oj pi pj b ei ej li lj qi qj xY C_
 ·refine ⟨e1,e2,e3,mU,fun b hZ xJ=>hb b hZ fun e=>xJ (own b e),fun _ h=>h,fun _ _ h=>.inl h,le.loc,fun i q hq hn=>?_,fun b hZ Sg=>?_,fun i q hq hn=>?_⟩
  ·have:i≠id:=fun e=>by subst e; rw [ho] at hn; cases hn
   simp [cp.put,this,hq]
  ·obtain ⟨i,o1,q,h1,h2,h3,h4⟩:=Sg
   simp only [aa.dN,cp.put] at h1 h3
   by_cases e:i=id
   ·simp only [e,if_true,Option.some.injEq] at h3 h1
    subst h3 h1
    rcases N6 b h4 with hk | hk
    ·exact own b hk
    ·omega
   ·simp only [e,if_false] at h1 h3
    exact ⟨i,o1,q,h1,h2,h3,h4⟩
  ·have:i≠id:=fun e=>by subst e; rw [ho] at hn; cases hn
   simp [this,hn]
theorem Inv.change [aN] {κ:cp} {h:aa} {w w':World} (hi:Inv κ h w) {id:Nat} {o o':cR} {p p':Place} (ho:h.f id=some o) (hp:κ.loc id=some p) (hl:o.live=true) (Se:o'.live=true)
  (mU:w.heap.size≤w'.heap.size) (Od:p'.blk<w'.heap.size) (N6:p'.blk=p.blk∨w.heap.size≤p'.blk) (Ww:p.aR≤p'.aR) (uU:p'.aR=p.aR→p'=p) (hv2:p.aR=1→p'=p)
  (e1:w'.os=w.os) (e2:w'.tape=w.tape) (e3:w'.output=w.output)
  (hb:∀b,b<w.heap.size→b≠p.blk→w'.heap[b]? =w.heap[b]?) (hr:gf (κ.put id p') w' p' o')
  (Yp:p'=p∨p'.f9=[]:=by first | exact .inl rfl | exact .inr rfl) (hn':∀b,mg o' p' b→p'.blk=b:=by intro b h; exact h.zD (by simp)):
  Inv (κ.put id p') (h.set id o') w'∧Ev κ h w (κ.put id p') (h.set id o') w':=by
 refine hi.uQ ho hp hl Se mU Od (fun b lI=>?_) Ww uU ?_ e1 e2 e3 (fun b hZ xJ=>hb b hZ fun e=>xJ (e▸mg.self)) hr
 ·rw [←hn' b lI]
  rcases N6 with k | k
  ·exact .inl (k▸mg.self)
  ·exact .inr k
 ·rcases Yp with k | k
  ·subst k; exact qx.refl _
  ·exact ⟨hv2,fun e he=>by (rw [k] at he; cases he),fun e he=>by (rw [k] at he; cases he)⟩
theorem Inv.freeze [aN] {κ:cp} {h:aa} {w:World} (hi:Inv κ h w) {r:Nat} {sz aR:Nat} {xs:List (List D)} (ho:h.f r=some (.row sz aR xs false)):
  ∃κ',Inv κ' (h.set r (.row sz aR xs true)) w∧Ev κ h w κ' (h.set r (.row sz aR xs true)) w∧κ'.loc=κ.loc:=by
 obtain ⟨p,hp,hr⟩:=hi.obj r _ ho
 have own:lJ κ h p.blk:=⟨r,_,p,ho,rfl,hp,mg.self⟩
 let κ':cp:={ κ with gJ:=fun b=>κ.gJ b∨b=p.blk }
 have le:Le κ w κ' w:=⟨fun b hb=>⟨.inl hb,rfl⟩,(Le.refl κ w).loc⟩
 refine ⟨κ',?_,?_,rfl⟩
 ·refine ⟨fun b hb=>?_,hi.ij,hi.fresh,fun i o1 xZ=>?_,fun i j oi oj pi pj b ei ej li lj qi qj xY C_=>?_,hi.kG.mono le⟩
  ·rcases hb with hb | hb
   ·exact hi.fl b hb
   ·rw [hb]; exact hi.ij r p hp
  ·simp only [aa.dN] at xZ
   split at xZ
   ·ab e
    cases xZ
    subst e
    obtain ⟨h1,lT,h2,h3,h4,h5,Bi,h6,cs,t,h7,h8,h9⟩:=hr
    exact ⟨p,hp,h1,lT,h2,fun _=>.inr rfl,fun e=>(by cases e),h5,Bi,h6,cs,t,h7,h8,fun i x j d hx hj=>let ⟨v,e,r⟩:=h9 i x j d hx hj; ⟨v,e,r.mono le⟩⟩
   ·ab e
    obtain ⟨q,hq,Of⟩:=hi.obj i o1 xZ
    by_cases LI:o1.live=true
    ·refine ⟨q,hq,Of.mono le (fun _ _=>rfl) fun b lI x=>x.resolve_right fun eb=>e (hi.inj i r o1 _ q p b xZ ho LI rfl hq hp lI (eb▸mg.self))⟩
    ·cases o1 with
     | row sz1 als xs1 Zr=>
      have hf:Zr=true:=by simpa [cR.live] using LI
      subst hf
      obtain ⟨h1,lT,h2,h3,h4,h5,Bi,h6,cs,t,h7,h8,h9⟩:=Of
      exact ⟨q,hq,h1,lT,h2,fun e=>.inl (h3 e),fun e=>(by cases e),h5,Bi,h6,cs,t,h7,h8,fun i x j d hx hj=>let ⟨v,e,r⟩:=h9 i x j d hx hj; ⟨v,e,r.mono le⟩⟩
     | _=>simp [cR.live] at LI
  ·have iC:∀k ok,(h.set r (.row sz aR xs true)).f k=some ok→ok.live=true→k≠r:=fun k ok hk hlk e=>by
    subst e
    simp only [aa.dN,if_true,Option.some.injEq] at hk
    subst hk
    simp [cR.live] at hlk
   have n1:=iC i oi ei li
   have n2:=iC j oj ej lj
   simp only [aa.dN,n1,n2,if_false] at ei ej
   exact hi.inj i j oi oj pi pj b ei ej li lj qi qj xY C_
 ·refine { Ev.refl κ h w with gJ:=fun b hb=>.inl hb,Gu:=fun b _ hx=>hx.imp id fun e=>(by rw [e]; exact own),own:=fun b _ nK=>?_,ids:=fun id q hq hn=>?_ }
  ·obtain ⟨i,o1,q,h1,h2,h3,h4⟩:=nK
   simp only [aa.dN] at h1
   split at h1
   ·cases h1; simp [cR.live] at h2
   ·exact ⟨i,o1,q,h1,h2,h3,h4⟩
  ·have:id≠r:=fun e=>by subst e; rw [ho] at hn; cases hn
   simp [this,hn]
def aa.union (h k:aa):aa:=⟨fun i=>match h.f i with | some o=>some o | none=>k.f i⟩
def aa.minus (h k:aa):aa:=⟨fun i=>match k.f i with | some _=>.none | .none=>h.f i⟩
theorem Inv.frame [aN] {κ κ':cp} {h h1 lT:aa} {w w':World} (hi:Inv κ h w) (hs:h1.sub h) (kD:Inv κ' lT w') (ev:Ev κ h1 w κ' lT w'):
  Inv κ' (lT.union (h.minus h1)) w'∧Ev κ h w κ' (lT.union (h.minus h1)) w'∧∀i,h.f i≠none→h1.f i=none→lT.f i=none:=by
 have le:=ev.le (hi.sub hs)
 have V0:∀i,h.f i≠none→h1.f i=none→lT.f i=none:=fun i iC hn=>by
  cases e:h.f i with
  | none=>exact absurd e iC
  | some o=>
   obtain ⟨p,hp,_⟩:=hi.obj i o e
   exact ev.ids i p hp hn
 have rest:∀i o,(lT.union (h.minus h1)).f i=some o→lT.f i=none→h.f i=some o∧h1.f i=none:=fun i o he hn=>by
  simp only [aa.union,hn,aa.minus] at he
  split at he
  ·cases he
  ·ab e; exact ⟨he,e⟩
 have OH:∀i o p b,h.f i=some o→h1.f i=none→κ.loc i=some p→o.live=true→mg o p b→¬lJ κ h1 b:=fun i o p b e n q l lI ⟨j,oj,pj,ej,lj,qj,hb⟩=>by
  have:=hi.inj j i oj o pj p b (hs j oj ej) e lj l qj q hb lI
  subst this
  rw [n] at ej
  cases ej
 have rz:∀i o,h.f i=some o→h1.f i=none→∃p,κ'.loc i=some p∧κ.loc i=some p∧gf κ' w' p o:=fun i o e n=>by
  obtain ⟨p,hp,hr⟩:=hi.obj i o e
  refine ⟨p,ev.LS i p hp n,hp,?_⟩
  by_cases l:o.live=true
  ·have no:=fun b lI=>OH i o p b e n hp l lI
   exact hr.mono le (fun b lI=>ev.blocks b (hi.gF e hp lI) (no b lI)) fun b lI x=>(ev.Gu b (hi.gF e hp lI) x).resolve_right (no b lI)
  ·cases o with
   | row sz aR xs fz=>
    have hf:fz=true:=by simpa [cR.live] using l
    subst hf
    have hb:=le.gJ _ (hr.2.2.2.1 rfl)
    exact hr.mono le (fun b lI=>by (have:=lI.zD (by simp)); subst this; exact hb.2) fun b lI _=>by (have:=lI.zD (by simp)); subst this; exact hr.2.2.2.1 rfl
   | _=>simp [cR.live] at l
 refine ⟨⟨kD.fl,kD.ij,kD.fresh,fun i o he=>?_,fun i j oi oj pi pj b ei ej li lj qi qj xY C_=>?_,kD.kG⟩,⟨ev.os,ev.tape,ev.output,ev.size,fun b hb xJ=>ev.blocks b hb fun ho=>xJ (ho.sub hs),ev.gJ,fun b hb hx=>(ev.Gu b hb hx).imp id fun ho=>ho.sub hs,ev.loc,fun i p hp hn=>?_,fun b hb ho=>?_,fun i p hp hn=>?_⟩,V0⟩
 ·cases e:lT.f i with
  | some o'=>
   have:o'=o:=by simpa [aa.union,e] using he
   subst this
   exact kD.obj i o' e
  | none=>
   obtain ⟨a,b⟩:=rest i o he e
   obtain ⟨p,q,_,r⟩:=rz i o a b
   exact ⟨p,q,r⟩
 ·have Z9:∀k ok pk b,lT.f k=some ok→ok.live=true→κ'.loc k=some pk→mg ok pk b→b<w.heap.size→lJ κ h1 b:=fun k ok pk b e l q lI hZ=>ev.own _ hZ ⟨k,ok,pk,e,l,q,lI⟩
  have T0:∀k ok pk m om pm b,lT.f k=some ok→(lT.union (h.minus h1)).f m=some om→lT.f m=none→ok.live=true→om.live=true→κ'.loc k=some pk→κ'.loc m=some pm→mg ok pk b→mg om pm b→False:=fun k ok pk m om pm b ek em nm lk lm qk qm hbk hbm=>by
   obtain ⟨a,c⟩:=rest m om em nm
   obtain ⟨p,q1,q2,_⟩:=rz m om a c
   rw [qm] at q1
   cases q1
   have hZ:=hi.gF a q2 hbm
   exact OH m om pm b a c q2 lm hbm (Z9 k ok pk b ek lk qk hbk hZ)
  cases e1:lT.f i with
  | some o1=>
   have t1:o1=oi:=by simpa [aa.union,e1] using ei
   subst t1
   cases e2:lT.f j with
   | some o2=>
    have t2:o2=oj:=by simpa [aa.union,e2] using ej
    subst t2
    exact kD.inj i j o1 o2 pi pj b e1 e2 li lj qi qj xY C_
   | none=>exact (T0 i o1 pi j oj pj b e1 ej e2 li lj qi qj xY C_).elim
  | none=>
   cases e2:lT.f j with
   | some o2=>
    have t2:o2=oj:=by simpa [aa.union,e2] using ej
    subst t2
    exact (T0 j o2 pj i oi pi b e2 ei e1 lj li qj qi C_ xY).elim
   | none=>
    obtain ⟨a,b'⟩:=rest i oi ei e1
    obtain ⟨c,d⟩:=rest j oj ej e2
    obtain ⟨p,q1,q2,_⟩:=rz i oi a b'
    obtain ⟨p',q1',q2',_⟩:=rz j oj c d
    rw [qi] at q1
    rw [qj] at q1'
    cases q1
    cases q1'
    exact hi.inj i j oi oj pi pj b a c li lj q2 q2' xY C_
 ·refine ev.LS i p hp ?_
  cases e:h1.f i with
  | none=>rfl
  | some o=>rw [hs i o e] at hn; cases hn
 ·obtain ⟨i,o,p,e,l,q,Ru⟩:=ho
  cases e1:lT.f i with
  | some o1=>
   have t1:o1=o:=by simpa [aa.union,e1] using e
   subst t1
   exact (ev.own b hb ⟨i,o1,p,e1,l,q,Ru⟩).sub hs
  | none=>
   obtain ⟨a,c⟩:=rest i o e e1
   obtain ⟨p',q1,q2,_⟩:=rz i o a c
   rw [q] at q1
   cases q1
   exact ⟨i,o,p,a,l,q2,Ru⟩
 ·have n1:h1.f i=none:=by
   cases e:h1.f i with
   | none=>rfl
   | some o=>rw [hs i o e] at hn; cases hn
  simp [aa.union,aa.minus,ev.ids i p hp n1,n1,hn]
end Go.Proofs.YtpklkpkfgmoghaaGreatDoor.Zz
