/- Values as plain data, an abstract heap, and how they stand to the model's values and worlds. -/
import Derived.CallsIn
import Derived.Laws.Sem
import Derived.Laws.World
import Derived.Laws.Strings
import Derived.Laws.AppendOwn
set_option linter.unnecessarySimpa false
set_option linter.unusedVariables false
set_option linter.unusedSimpArgs false
namespace Go.Proofs.YtpagdhbmbnoddaaGreatDoor.Zz
inductive D where
 | undef
 | bool (b : Bool)
 | int (k : IntKind) (n : Int)
 | float (k : FloatKind) (bits : Nat)
 | str (s : List UInt8)
 | nilptr
 | ptr (id ver off : Nat)
 | eptr (cells : List D) (off : Nat)
 | rptr (r ver i f : Nat)
 | nilsl
 | sl (xs : List (List D))
 | row (r ver off len : Nat)
 | csl (id off len : Nat)
 | agg (ds : List D)
 | tuple (ds : List D)
 | func (fn : Fn) (first cap : List D)
 | nilfunc
 | iface (t : TypeId) (d : D)
 | nilif
 | map (id : Nat)
 | nilmap
 | iter (id : Nat)
instance : Inhabited D := ⟨.undef⟩
structure Old where
 ver : Nat
 blk : Nat
 cap : Nat
 sz : Nat
 len : Nat
structure Place where
 blk : Nat
 base : Nat
 ver : Nat
 cap : Nat
 sz : Nat
 rc : Option Loop
 old : List Old := []
 oldOk : ∀ e ∈ old, e.ver < ver ∧ e.sz = sz := by simp
def Place.new (blk base ver cap sz : Nat) (rc : Option Loop) : Place := { blk, base, ver, cap, sz, rc }
inductive Ex where
 | normal | ret | exit (id : Nat)
def Ex.code : Ex → Option Code
 | .normal => none
 | .ret => some .ret
 | .exit id => some (.exit id)
inductive LSt where
 | busy | done (e : Ex)
def LSt.on (R : Loop) : LSt → Loop
 | .busy => { R with state := .busy, pending := none }
 | .done e => { R with state := if e.code.isNone then .ready else .done, pending := e.code }
inductive AObj where
 | cells (ds : List D)
 | row (sz ver : Nat) (xs : List (List D)) (fz : Bool)
 | arow (sz ver : Nat) (xs : List (List D)) (old : List (Nat × Nat))
 | map (es : List (D × D))
 | siter (s : List UInt8) (pos : Nat)
 | lp (st : LSt)
 | dfr
 | other
def AObj.live : AObj → Bool
 | .row _ _ _ fz => !fz
 | _ => true
structure AHeap where
 f : Nat → Option AObj
def AHeap.emp : AHeap := ⟨fun _ => .none⟩
def AHeap.set (h : AHeap) (id : Nat) (o : AObj) : AHeap := ⟨fun i => if i = id then some o else h.f i⟩
def AHeap.del (h : AHeap) (id : Nat) : AHeap := ⟨fun i => if i = id then .none else h.f i⟩
@[simp] theorem AHeap.emp_f (i : Nat) : AHeap.emp.f i = .none := rfl
@[simp] theorem AHeap.set_f (h : AHeap) (id i : Nat) (o : AObj) : (h.set id o).f i = if i = id then some o else h.f i := rfl
@[simp] theorem AHeap.del_f (h : AHeap) (id i : Nat) : (h.del id).f i = if i = id then .none else h.f i := rfl
theorem AHeap.ext {h k : AHeap} (e : ∀ i, h.f i = k.f i) : h = k := by
 cases h; cases k; congr; exact funext e
theorem AHeap.set_set (h : AHeap) (id : Nat) (o p : AObj) : (h.set id o).set id p = h.set id p :=
 AHeap.ext fun i => by simp only [AHeap.set_f]; split <;> rfl
structure Kap where
 imm : Nat → Prop
 loc : Nat → Option Place
inductive Rep (κ : Kap) (w : World) : Value → D → Prop
 | undef (v : Value) : Rep κ w v .undef
 | bool (b : Bool) : Rep κ w (.bool b) (.bool b)
 | int (k : IntKind) (n : Int) : Rep κ w (.int k n) (.int k n)
 | float (k : FloatKind) (n : Nat) : Rep κ w (.float k n) (.float k n)
 | str (s : List UInt8) (h : s.length ≤ 9223372036854775807) : Rep κ w (.string ⟨s.toArray⟩) (.str s)
 | nilptr : Rep κ w (.pointer none) .nilptr
 | ptr {id ver off : Nat} {p : Place} {a : Addr} (hl : κ.loc id = some p) (hv : ver ≤ p.ver) (ha : p.ver = ver → a = ⟨p.blk, p.base + off, none⟩) : Rep κ w (.pointer (some a)) (.ptr id ver off)
 | eptr {b base off : Nat} {cells : List D} (f : Nat → Value) (hb : κ.imm b) (hc : ∀ j d, cells[j]? = some d → w.cell? ⟨b, base + j, none⟩ = some (f j)) (hr : ∀ j d, cells[j]? = some d → Rep κ w (f j) d) :
   Rep κ w (.pointer (some ⟨b, base + off, none⟩)) (.eptr cells off)
 | rptr {r ver i f : Nat} {p : Place} {a : Addr} (hl : κ.loc r = some p) (hv : ver ≤ p.ver) (ha : p.ver = ver → a = ⟨p.blk, p.base + i * p.sz + f, none⟩) : Rep κ w (.pointer (some a)) (.rptr r ver i f)
 | nilsl : Rep κ w (.slice none 0 0) .nilsl
 | slnil {ba : Option Addr} {cap : Nat} (hb : ba = .none → cap = 0) : Rep κ w (.slice ba 0 cap) (.sl [])
 | sl {b o sz cap : Nat} {xs : List (List D)} (f : Nat → Nat → Value) (hn : xs.length ≤ 9223372036854775807) (hcap : xs.length ≤ cap) (hsz : ∀ x ∈ xs, x.length = sz)
   (hc : ∀ i x j d, xs[i]? = some x → x[j]? = some d → κ.imm b ∧ w.cell? ⟨b, o + i * sz + j, none⟩ = some (f i j)) (hr : ∀ i x j d, xs[i]? = some x → x[j]? = some d → Rep κ w (f i j) d) :
   Rep κ w (.slice (some ⟨b, o, none⟩) xs.length cap) (.sl xs)
 | row {r ver off len cap : Nat} {p : Place} {a : Addr} (hl : κ.loc r = some p) (hv : ver ≤ p.ver) (hn : len ≤ 9223372036854775807) (hcap : len ≤ cap)
   (ha : p.ver = ver → cap = 0 ∨ (a = ⟨p.blk, p.base + off * p.sz, none⟩ ∧ off + cap = p.cap)) (hb : ∀ e ∈ p.old, e.ver = ver → cap = 0 ∨ (a = ⟨e.blk, off * e.sz, none⟩ ∧ off + cap = e.cap)) : Rep κ w (.slice (some a) len cap) (.row r ver off len)
 | csl {id off len cap : Nat} {p : Place} {a : Addr} (hl : κ.loc id = some p) (hv : 1 ≤ p.ver) (hn : len ≤ 9223372036854775807) (hcap : len ≤ cap)
   (ha : p.ver = 1 → cap = 0 ∨ a = ⟨p.blk, p.base + off, none⟩) : Rep κ w (.slice (some a) len cap) (.csl id off len)
 | agg {cs : Array Value} {ds : List D} (hs : cs.size = ds.length) (hr : ∀ i d, ds[i]? = some d → Rep κ w (cs.getD i (.tuple #[])) d) : Rep κ w (.agg cs) (.agg ds)
 | tuple {cs : Array Value} {ds : List D} (hs : cs.size = ds.length) (hr : ∀ i d, ds[i]? = some d → Rep κ w (cs.getD i (.tuple #[])) d) : Rep κ w (.tuple cs) (.tuple ds)
 | func {fn : Fn} {v1 v2 : Array Value} {d1 d2 : List D} (hs1 : v1.size = d1.length) (hs2 : v2.size = d2.length) (hr1 : ∀ i d, d1[i]? = some d → Rep κ w (v1.getD i (.tuple #[])) d)
   (hr2 : ∀ i d, d2[i]? = some d → Rep κ w (v2.getD i (.tuple #[])) d) : Rep κ w (.func fn v1 v2) (.func fn d1 d2)
 | nilfunc : Rep κ w .nilFunc .nilfunc
 | iface {t : TypeId} {v : Value} {d : D} (hr : Rep κ w v d) : Rep κ w (.iface t v) (.iface t d)
 | nilif : Rep κ w .nilIface .nilif
 | map {id : Nat} {p : Place} (hl : κ.loc id = some p) (hv : p.ver = 1) : Rep κ w (.map (some p.blk)) (.map id)
 | nilmap : Rep κ w (.map none) .nilmap
 | iter {id : Nat} {p : Place} (hl : κ.loc id = some p) (hv : p.ver = 1) : Rep κ w (.pointer (some ⟨p.blk, 0, none⟩)) (.iter id)
theorem Rep.sl_of {κ : Kap} {w : World} {b o sz cap len : Nat} {xs : List (List D)} (e : len = xs.length) (f : Nat → Nat → Value) (hn : xs.length ≤ 9223372036854775807) (hcap : xs.length ≤ cap) (hsz : ∀ x ∈ xs, x.length = sz)
   (hc : ∀ (i : Nat) (x : List D) (j : Nat) (d : D), xs[i]? = some x → x[j]? = some d → κ.imm b ∧ w.cell? ⟨b, o + i * sz + j, none⟩ = some (f i j)) (hr : ∀ (i : Nat) (x : List D) (j : Nat) (d : D), xs[i]? = some x → x[j]? = some d → Rep κ w (f i j) d) :
   Rep κ w (.slice (some ⟨b, o, none⟩) len cap) (.sl xs) := by subst e; exact .sl f hn hcap hsz hc hr
structure PLe (p p' : Place) : Prop where
 one : p.ver = 1 → p' = p
 lt : ∀ e ∈ p'.old, e.ver < p.ver → e ∈ p.old
 eq : ∀ e ∈ p'.old, e.ver = p.ver → p'.ver ≠ p.ver → p.base = 0 ∧ e.blk = p.blk ∧ e.cap = p.cap ∧ e.sz = p.sz
theorem PLe.refl (p : Place) : PLe p p := ⟨fun _ => rfl, fun _ h _ => h, fun _ _ _ h => absurd rfl h⟩
theorem PLe.of_new {p p' : Place} (h : p.ver ≠ 1) (e : p'.old = []) : PLe p p' :=
 ⟨fun x => absurd x h, fun x hx => by (rw [e] at hx; cases hx), fun x hx => by (rw [e] at hx; cases hx)⟩
theorem PLe.trans {p p1 p2 : Place} (a : PLe p p1) (b : PLe p1 p2) (l1 : p.ver ≤ p1.ver) (s1 : p1.ver = p.ver → p1 = p) : PLe p p2 := by
 refine ⟨fun e => ?_, fun e he hv => a.lt e (b.lt e he (Nat.lt_of_lt_of_le hv l1)) hv, fun e he hv hn => ?_⟩
 ·have := a.one e; subst this; exact b.one e
 ·by_cases c : p1.ver = p.ver
  ·have := s1 c; subst this; exact b.eq e he hv hn
  ·exact a.eq e (b.lt e he (by omega)) hv c
structure Le (κ : Kap) (w : World) (κ' : Kap) (w' : World) : Prop where
 imm : ∀ b, κ.imm b → κ'.imm b ∧ w'.heap[b]? = w.heap[b]?
 loc : ∀ id p, κ.loc id = some p → ∃ p', κ'.loc id = some p' ∧ p.ver ≤ p'.ver ∧ (p'.ver = p.ver → p' = p) ∧ PLe p p'
theorem Le.refl (κ : Kap) (w : World) : Le κ w κ w := ⟨fun _ h => ⟨h, rfl⟩, fun _ p h => ⟨p, h, Nat.le_refl _, fun _ => rfl, PLe.refl p⟩⟩
theorem Rep.mono {κ κ' : Kap} {w w' : World} {v : Value} {d : D} (h : Rep κ w v d) (le : Le κ w κ' w') : Rep κ' w' v d := by
 induction h with
 | undef v => exact .undef v
 | bool b => exact .bool b
 | int k n => exact .int k n
 | float k n => exact .float k n
 | str s h => exact .str s h
 | nilptr => exact .nilptr
 | ptr hl hv ha =>
  obtain ⟨p', h1, h2, h3, _⟩ := le.loc _ _ hl
  exact .ptr h1 (Nat.le_trans hv h2) fun e => by
   have e' : p'.ver = _ := Nat.le_antisymm (e ▸ hv) h2
   rw [h3 e']; exact ha (by rw [← e', e])
 | eptr f hb hc hr ih =>
  exact .eptr f (le.imm _ hb).1 (fun j d hj => by rw [World.cell?_of_block (w := w) (le.imm _ hb).2]; exact hc j d hj) ih
 | rptr hl hv ha =>
  obtain ⟨p', h1, h2, h3, _⟩ := le.loc _ _ hl
  exact .rptr h1 (Nat.le_trans hv h2) fun e => by
   have e' : p'.ver = _ := Nat.le_antisymm (e ▸ hv) h2
   rw [h3 e']; exact ha (by rw [← e', e])
 | nilsl => exact .nilsl
 | slnil hb => exact .slnil hb
 | sl f hn hcap hsz hc hr ih =>
  exact .sl f hn hcap hsz (fun i x j d hi hj => by
   obtain ⟨h1, h2⟩ := hc i x j d hi hj
   exact ⟨(le.imm _ h1).1, by rw [World.cell?_of_block (w := w) (le.imm _ h1).2]; exact h2⟩) ih
 | row hl hv hn hcap ha hb =>
  rename_i r ver off len cap p a
  obtain ⟨p', h1, h2, h3, h4⟩ := le.loc _ _ hl
  refine .row h1 (Nat.le_trans hv h2) hn hcap (fun e => ?_) fun e he hev => ?_
  ·have e' : p'.ver = _ := Nat.le_antisymm (e ▸ hv) h2
   rw [h3 e']; exact ha (by rw [← e', e])
  ·by_cases c : ver < p.ver
   ·exact hb e (h4.lt e he (by omega)) hev
   ·have hpv : p.ver = ver := by omega
    by_cases c2 : p'.ver = p.ver
    ·have := h3 c2; subst this; exact hb e he hev
    ·obtain ⟨q1, q2, q3, q4⟩ := h4.eq e he (by omega) c2
     rcases ha hpv with k | ⟨k1, k2⟩
     ·exact .inl k
     ·exact .inr ⟨by rw [k1, q1, q2, q4, Nat.zero_add], by rw [q3]; exact k2⟩
 | csl hl hv hn hcap ha =>
  obtain ⟨p', h1, h2, h3, _⟩ := le.loc _ _ hl
  exact .csl h1 (Nat.le_trans hv h2) hn hcap fun e => by
   have e' : p'.ver = _ := Nat.le_antisymm (e ▸ hv) h2
   rw [h3 e']; exact ha (by rw [← e', e])
 | agg hs hr ih => exact .agg hs ih
 | tuple hs hr ih => exact .tuple hs ih
 | func hs1 hs2 hr1 hr2 ih1 ih2 => exact .func hs1 hs2 ih1 ih2
 | nilfunc => exact .nilfunc
 | iface hr ih => exact .iface ih
 | nilif => exact .nilif
 | map hl hv =>
  obtain ⟨p', h1, h2, h3, h4⟩ := le.loc _ _ hl
  have := h4.one hv
  subst this
  exact .map h1 hv
 | nilmap => exact .nilmap
 | iter hl hv =>
  obtain ⟨p', h1, h2, h3, h4⟩ := le.loc _ _ hl
  have := h4.one hv
  subst this
  exact .iter h1 hv
def RowIn (κ : Kap) (w : World) (b sz cap : Nat) (xs : List (List D)) : Prop :=
 ∃ (cs : Array Value) (t : TypeId), w.heap[b]? = some (.cells cs t (0, 0)) ∧ cap * sz ≤ cs.size ∧
  ∀ (i : Nat) (x : List D) (j : Nat) (d : D), xs[i]? = some x → x[j]? = some d → ∃ v, cs[i * sz + j]? = some v ∧ Rep κ w v d
def ObjRep (κ : Kap) (w : World) (p : Place) : AObj → Prop
 | .cells ds => p.ver = 1 ∧ p.base = 0 ∧ ¬ κ.imm p.blk ∧ ∃ (cs : Array Value) (t : TypeId), w.heap[p.blk]? = some (.cells cs t (0, 0)) ∧ cs.size = ds.length ∧ ∀ (i : Nat) (d : D), ds[i]? = some d → ∃ v, cs[i]? = some v ∧ Rep κ w v d
 | .row sz ver xs fz => p.ver = ver ∧ 2 ≤ ver ∧ p.sz = sz ∧ (fz = true → κ.imm p.blk) ∧ (fz = false → ¬ κ.imm p.blk) ∧ xs.length ≤ p.cap ∧ p.cap ≤ 9223372036854775807 ∧ (∀ x ∈ xs, x.length = sz) ∧
   ∃ (cs : Array Value) (t : TypeId), w.heap[p.blk]? = some (.cells cs t (0, 0)) ∧ p.base + p.cap * sz ≤ cs.size ∧
    ∀ (i : Nat) (x : List D) (j : Nat) (d : D), xs[i]? = some x → x[j]? = some d → ∃ v, cs[p.base + i * sz + j]? = some v ∧ Rep κ w v d
 | .arow sz ver xs old => p.ver = ver ∧ 2 ≤ ver ∧ p.sz = sz ∧ ¬ κ.imm p.blk ∧ p.base = 0 ∧ xs.length ≤ p.cap ∧ p.cap ≤ 9223372036854775807 ∧ (∀ x ∈ xs, x.length = sz) ∧ RowIn κ w p.blk sz p.cap xs ∧
   p.old.map (fun e => (e.ver, e.len)) = old ∧ (∀ e ∈ p.old, 2 ≤ e.ver ∧ e.ver < ver ∧ e.sz = sz ∧ ¬ κ.imm e.blk ∧ e.len ≤ e.cap ∧ e.cap ≤ 9223372036854775807 ∧ e.len ≤ xs.length ∧ RowIn κ w e.blk sz e.cap (xs.take e.len)) ∧
   p.old.Pairwise (fun a b => b.ver < a.ver ∧ b.len ≤ a.len)
 | .map es => p.ver = 1 ∧ ¬ κ.imm p.blk ∧ ∃ (ms : Array MapEntry) (clock : Nat), w.heap[p.blk]? = some (.map ms clock) ∧ ms.size = es.length ∧ ∀ (i : Nat) (kv : D × D), es[i]? = some kv → ∃ m : MapEntry, ms[i]? = some m ∧ Rep κ w m.key kv.1 ∧ Rep κ w m.val kv.2
 | .siter s pos => p.ver = 1 ∧ ¬ κ.imm p.blk ∧ w.heap[p.blk]? = some (.stringIter ⟨s.toArray⟩ pos)
 | .lp st => p.ver = 1 ∧ ¬ κ.imm p.blk ∧ ∃ R, p.rc = some R ∧ w.heap[p.blk]? = some (.loop (st.on R))
 | .dfr => p.ver = 1 ∧ ¬ κ.imm p.blk ∧ w.heap[p.blk]? = some (.deferred (some []))
 | .other => p.ver = 1 ∧ ¬ κ.imm p.blk
class Globs where
 of : Nat → Option (List D)
 ints : Nat → Option IntKind
structure GlobRep [Globs] (κ : Kap) (w : World) : Prop where
 of : ∀ g ds, Globs.of g = some ds → κ.imm g ∧ ∃ (cs : Array Value) (t : TypeId), w.heap[g]? = some (.cells cs t (0, 0)) ∧ cs.size = ds.length ∧ ∀ (j : Nat) (d : D), ds[j]? = some d → ∃ v, cs[j]? = some v ∧ Rep κ w v d
 ints : ∀ g k, Globs.ints g = some k → κ.imm g ∧ ∃ m : Int, w.cell? ⟨g, 0, none⟩ = some (.int k m)
theorem GlobRep.mono [Globs] {κ κ' : Kap} {w w' : World} (h : GlobRep κ w) (le : Le κ w κ' w') : GlobRep κ' w' := by
 constructor
 ·intro g ds e
  obtain ⟨h1, cs, t, h2, h3, h4⟩ := h.of g ds e
  refine ⟨(le.imm g h1).1, cs, t, (le.imm g h1).2.trans h2, h3, fun j d hj => ?_⟩
  obtain ⟨v, h5, h6⟩ := h4 j d hj
  exact ⟨v, h5, h6.mono le⟩
 ·intro g k e
  obtain ⟨h1, m, h2⟩ := h.ints g k e
  exact ⟨(le.imm g h1).1, m, by rw [World.cell?_of_block (w := w) (le.imm g h1).2]; exact h2⟩
theorem GlobRep.rep [Globs] {κ : Kap} {w : World} (h : GlobRep κ w) {g : Nat} {ds : List D} (e : Globs.of g = some ds) : Rep κ w (.pointer (some ⟨g, 0, none⟩)) (.eptr ds 0) := by
 obtain ⟨h1, cs, t, h2, h3, h4⟩ := h.of g ds e
 have := Rep.eptr (κ := κ) (w := w) (b := g) (base := 0) (off := 0) (cells := ds) (fun j => cs.getD j (.tuple #[])) h1 (fun j d hj => by
  obtain ⟨v, h5, _⟩ := h4 j d hj
  simp [World.cell?, h2, h5, Array.getD_eq_getD_getElem?]) (fun j d hj => by
  obtain ⟨v, h5, h6⟩ := h4 j d hj
  show Rep κ w (cs.getD j (.tuple #[])) d
  rw [Array.getD_eq_getD_getElem?, h5]
  exact h6)
 simpa using this
def AObj.olds (o : AObj) (p : Place) : List Old := match o with
 | .arow .. => p.old
 | _ => []
def Own (o : AObj) (p : Place) (b : Nat) : Prop := p.blk = b ∨ ∃ e ∈ o.olds p, e.blk = b
theorem Own.of_old {o : AObj} {p : Place} {b : Nat} (h : Own o p b) (e : p.old = []) : p.blk = b := by
 rcases h with h | ⟨x, hx, _⟩
 ·exact h
 ·exfalso
  cases o with
  | arow sz ver xs old => simp [AObj.olds, e] at hx
  | _ => cases hx
theorem Own.self {o : AObj} {p : Place} : Own o p p.blk := .inl rfl
structure Inv [Globs] (κ : Kap) (h : AHeap) (w : World) : Prop where
 immLt : ∀ b, κ.imm b → b < w.heap.size
 locLt : ∀ id p, κ.loc id = some p → p.blk < w.heap.size
 fresh : ∃ N, ∀ id, N ≤ id → κ.loc id = none
 obj : ∀ id o, h.f id = some o → ∃ p, κ.loc id = some p ∧ ObjRep κ w p o
 inj : ∀ i j oi oj pi pj b, h.f i = some oi → h.f j = some oj → oi.live = true → oj.live = true → κ.loc i = some pi → κ.loc j = some pj → Own oi pi b → Own oj pj b → i = j
 glob : GlobRep κ w
def Owned (κ : Kap) (h : AHeap) (b : Nat) : Prop := ∃ id o p, h.f id = some o ∧ o.live = true ∧ κ.loc id = some p ∧ Own o p b
theorem ObjRep.not_imm {κ : Kap} {w : World} {p : Place} {o : AObj} (h : ObjRep κ w p o) (hl : o.live = true) {b : Nat} (hb : Own o p b) : ¬ κ.imm b := by
 rcases hb with rfl | ⟨e, he, rfl⟩
 ·cases o with
  | cells ds => exact h.2.2.1
  | row sz ver xs fz => exact h.2.2.2.2.1 (by simpa [AObj.live] using hl)
  | arow sz ver xs old => exact h.2.2.2.1
  | map es => exact h.2.1
  | siter s pos => exact h.2.1
  | lp st => exact h.2.1
  | dfr => exact h.2.1
  | other => exact h.2
 ·cases o with
  | arow sz ver xs old =>
   obtain ⟨_, _, _, _, _, _, _, _, _, _, k, _⟩ := h
   exact (k e he).2.2.2.1
  | _ => cases he
theorem ObjRep.own_lt {κ : Kap} {w : World} {p : Place} {o : AObj} (h : ObjRep κ w p o) (hp : p.blk < w.heap.size) {b : Nat} (hb : Own o p b) : b < w.heap.size := by
 rcases hb with rfl | ⟨e, he, rfl⟩
 ·exact hp
 ·cases o with
  | arow sz ver xs old =>
   obtain ⟨_, _, _, _, _, _, _, _, _, _, k, _⟩ := h
   obtain ⟨_, _, _, _, _, _, _, cs, t, hc, _⟩ := k e he
   exact (Array.getElem?_eq_some_iff.1 hc).1
  | _ => cases he
theorem Inv.own_lt [Globs] {κ : Kap} {h : AHeap} {w : World} (hi : Inv κ h w) {id : Nat} {o : AObj} {p : Place} (ho : h.f id = some o) (hp : κ.loc id = some p) {b : Nat} (hb : Own o p b) : b < w.heap.size := by
 obtain ⟨p', h1, h2⟩ := hi.obj id o ho
 rw [hp] at h1
 cases h1
 exact h2.own_lt (hi.locLt id p hp) hb
theorem Inv.owned_not_imm [Globs] {κ : Kap} {h : AHeap} {w : World} (hi : Inv κ h w) {b : Nat} (ho : Owned κ h b) : ¬ κ.imm b := by
 obtain ⟨id, o, p, h1, h2, h3, hb⟩ := ho
 obtain ⟨p', h4, h5⟩ := hi.obj id o h1
 rw [h3] at h4
 cases h4
 exact h5.not_imm h2 hb
structure Ev (κ : Kap) (h : AHeap) (w : World) (κ' : Kap) (h' : AHeap) (w' : World) : Prop where
 os : w'.os = w.os
 tape : w'.tape = w.tape
 output : w'.output = w.output
 size : w.heap.size ≤ w'.heap.size
 blocks : ∀ b, b < w.heap.size → ¬ Owned κ h b → w'.heap[b]? = w.heap[b]?
 imm : ∀ b, κ.imm b → κ'.imm b
 immN : ∀ b, b < w.heap.size → κ'.imm b → κ.imm b ∨ Owned κ h b
 loc : ∀ id p, κ.loc id = some p → ∃ p', κ'.loc id = some p' ∧ p.ver ≤ p'.ver ∧ (p'.ver = p.ver → p' = p) ∧ PLe p p'
 locN : ∀ id p, κ.loc id = some p → h.f id = none → κ'.loc id = some p
 own : ∀ b, b < w.heap.size → Owned κ' h' b → Owned κ h b
 ids : ∀ id p, κ.loc id = some p → h.f id = none → h'.f id = none
theorem Ev.refl (κ : Kap) (h : AHeap) (w : World) : Ev κ h w κ h w :=
 ⟨rfl, rfl, rfl, Nat.le_refl _, fun _ _ _ => rfl, fun _ h => h, fun _ _ h => .inl h, fun _ p h => ⟨p, h, Nat.le_refl _, fun _ => rfl, PLe.refl p⟩, fun _ _ h _ => h, fun _ _ h => h, fun _ _ _ h => h⟩
theorem Ev.trans {κ κ1 κ2 : Kap} {h h1 h2 : AHeap} {w w1 w2 : World} (a : Ev κ h w κ1 h1 w1) (b : Ev κ1 h1 w1 κ2 h2 w2) : Ev κ h w κ2 h2 w2 where
 os := b.os.trans a.os
 tape := b.tape.trans a.tape
 output := b.output.trans a.output
 size := Nat.le_trans a.size b.size
 blocks := fun x hx ho => (b.blocks x (Nat.lt_of_lt_of_le hx a.size) (fun h => ho (a.own x hx h))).trans (a.blocks x hx ho)
 imm := fun x hx => b.imm x (a.imm x hx)
 immN := fun x hx hi => by
  rcases b.immN x (Nat.lt_of_lt_of_le hx a.size) hi with h | h
  ·exact a.immN x hx h
  ·exact .inr (a.own x hx h)
 loc := fun id p hp => by
  obtain ⟨p1, e1, l1, s1, t1⟩ := a.loc id p hp
  obtain ⟨p2, e2, l2, s2, t2⟩ := b.loc id p1 e1
  refine ⟨p2, e2, Nat.le_trans l1 l2, fun e => ?_, t1.trans t2 l1 s1⟩
  have : p1.ver = p.ver := Nat.le_antisymm (e ▸ l2) l1
  rw [s2 (e.trans this.symm), s1 this]
 locN := fun id p hp hn => b.locN id p (a.locN id p hp hn) (a.ids id p hp hn)
 own := fun x hx h => a.own x hx (b.own x (Nat.lt_of_lt_of_le hx a.size) h)
 ids := fun id p hp hn => b.ids id p (a.locN id p hp hn) (a.ids id p hp hn)
theorem Ev.le [Globs] {κ κ' : Kap} {h h' : AHeap} {w w' : World} (e : Ev κ h w κ' h' w') (hi : Inv κ h w) : Le κ w κ' w' :=
 ⟨fun b hb => ⟨e.imm b hb, e.blocks b (hi.immLt b hb) fun ho => hi.owned_not_imm ho hb⟩, e.loc⟩
def AHeap.sub (h' h : AHeap) : Prop := ∀ id o, h'.f id = some o → h.f id = some o
theorem AHeap.sub_refl (h : AHeap) : h.sub h := fun _ _ e => e
theorem AHeap.emp_sub (h : AHeap) : AHeap.emp.sub h := fun _ _ e => by simp at e
theorem Inv.sub [Globs] {κ : Kap} {h h' : AHeap} {w : World} (hi : Inv κ h w) (hs : h'.sub h) : Inv κ h' w :=
 ⟨hi.immLt, hi.locLt, hi.fresh, fun id o e => hi.obj id o (hs id o e), fun i j oi oj pi pj b e1 e2 => hi.inj i j oi oj pi pj b (hs i oi e1) (hs j oj e2), hi.glob⟩
theorem Owned.sub {κ : Kap} {h h' : AHeap} {b : Nat} (ho : Owned κ h' b) (hs : h'.sub h) : Owned κ h b := by
 obtain ⟨id, o, p, h1, h2⟩ := ho
 exact ⟨id, o, p, hs id o h1, h2⟩
theorem Own.of_ne {o : AObj} {p : Place} {b : Nat} (h : Own o p b) (ho : ∀ sz ver xs old, o ≠ .arow sz ver xs old) : p.blk = b := by
 rcases h with h | ⟨e, he, _⟩
 ·exact h
 ·cases o with
  | arow sz ver xs old => exact absurd rfl (ho sz ver xs old)
  | _ => cases he
theorem RowIn.mono {κ κ' : Kap} {w w' : World} {b sz cap : Nat} {xs : List (List D)} (h : RowIn κ w b sz cap xs) (le : Le κ w κ' w') (hb : w'.heap[b]? = w.heap[b]?) : RowIn κ' w' b sz cap xs := by
 obtain ⟨cs, t, h1, h2, h3⟩ := h
 exact ⟨cs, t, hb.trans h1, h2, fun i x j d hx hj => let ⟨v, e, r⟩ := h3 i x j d hx hj; ⟨v, e, r.mono le⟩⟩
theorem Ev.sub {κ κ' : Kap} {h h' h'' : AHeap} {w w' : World} (e : Ev κ h w κ' h' w') (hs : h''.sub h') : Ev κ h w κ' h'' w' :=
 { e with
  own := fun b hb ho => e.own b hb (ho.sub hs)
  ids := fun id p hp hn => by
   cases hh : h''.f id with
   | none => rfl
   | some o => rw [← e.ids id p hp hn, hs id o hh] }
end Go.Proofs.YtpagdhbmbnoddaaGreatDoor.Zz
namespace Go.Proofs.YtpagdhbmbnoddaaGreatDoor.Zz
theorem ObjRep.mono {κ κ' : Kap} {w w' : World} {p : Place} {o : AObj} (h : ObjRep κ w p o) (le : Le κ w κ' w') (hbs : ∀ b, Own o p b → w'.heap[b]? = w.heap[b]?) (his : ∀ b, Own o p b → κ'.imm b → κ.imm b) : ObjRep κ' w' p o := by
 have hb := hbs p.blk Own.self
 have hi := his p.blk Own.self
 cases o with
 | arow sz ver xs old =>
  obtain ⟨h1, h2, h3, h4, h5, h6, h7, h8, h9, h10, h11, h12⟩ := h
  refine ⟨h1, h2, h3, fun x => h4 (hi x), h5, h6, h7, h8, h9.mono le hb, h10, fun e he => ?_, h12⟩
  obtain ⟨k1, k2, k3, k4, k5, k6, k7, k8⟩ := h11 e he
  exact ⟨k1, k2, k3, fun x => k4 (his _ (.inr ⟨e, he, rfl⟩) x), k5, k6, k7, k8.mono le (hbs _ (.inr ⟨e, he, rfl⟩))⟩
 | cells ds =>
  obtain ⟨h1, h2, h3, cs, t, h4, h5, h6⟩ := h
  exact ⟨h1, h2, fun x => h3 (hi x), cs, t, hb.trans h4, h5, fun i d hd => let ⟨v, e, r⟩ := h6 i d hd; ⟨v, e, r.mono le⟩⟩
 | row sz ver xs fz =>
  obtain ⟨h1, h1', h2, h3, h4, h5, h5', h6, cs, t, h7, h8, h9⟩ := h
  exact ⟨h1, h1', h2, fun e => (le.imm _ (h3 e)).1, fun e x => h4 e (hi x), h5, h5', h6, cs, t, hb.trans h7, h8, fun i x j d hx hj => let ⟨v, e, r⟩ := h9 i x j d hx hj; ⟨v, e, r.mono le⟩⟩
 | map es =>
  obtain ⟨h1, h2, ms, cl, h3, h4, h5⟩ := h
  exact ⟨h1, fun x => h2 (hi x), ms, cl, hb.trans h3, h4, fun i kv hk => let ⟨m, e, r1, r2⟩ := h5 i kv hk; ⟨m, e, r1.mono le, r2.mono le⟩⟩
 | siter s pos => exact ⟨h.1, fun x => h.2.1 (hi x), hb.trans h.2.2⟩
 | lp st => obtain ⟨h1, h2, R, h3, h4⟩ := h; exact ⟨h1, fun x => h2 (hi x), R, h3, hb.trans h4⟩
 | dfr => exact ⟨h.1, fun x => h.2.1 (hi x), hb.trans h.2.2⟩
 | other => exact ⟨h.1, fun x => h.2 (hi x)⟩
theorem Le.of_heap {κ : Kap} {w w' : World} (e : w'.heap = w.heap) : Le κ w κ w' := ⟨fun _ h => ⟨h, by rw [e]⟩, (Le.refl κ w).loc⟩
theorem Inv.of_heap [Globs] {κ : Kap} {h : AHeap} {w w' : World} (hi : Inv κ h w) (e : w'.heap = w.heap) : Inv κ h w' :=
 ⟨fun b hb => by rw [e]; exact hi.immLt b hb, fun id p hp => by rw [e]; exact hi.locLt id p hp, hi.fresh,
  fun id o ho => let ⟨p, h1, h2⟩ := hi.obj id o ho; ⟨p, h1, h2.mono (Le.of_heap e) (fun b _ => by rw [e]) fun _ _ x => x⟩, hi.inj, hi.glob.mono (Le.of_heap e)⟩
theorem Ev.of_heap {κ : Kap} {h : AHeap} {w w' : World} (e : w'.heap = w.heap) (e1 : w'.os = w.os) (e2 : w'.tape = w.tape) (e3 : w'.output = w.output) : Ev κ h w κ h w' :=
 { Ev.refl κ h w with os := e1, tape := e2, output := e3, size := by rw [e]; exact Nat.le_refl _, blocks := fun _ _ _ => by rw [e] }
theorem Inv.new_id [Globs] {κ : Kap} {h : AHeap} {w : World} (hi : Inv κ h w) : ∃ id, κ.loc id = none ∧ h.f id = none := by
 obtain ⟨N, hN⟩ := hi.fresh
 refine ⟨N, hN N (Nat.le_refl _), ?_⟩
 cases e : h.f N with
 | none => rfl
 | some o =>
  obtain ⟨p, hp, _⟩ := hi.obj N o e
  rw [hN N (Nat.le_refl _)] at hp
  cases hp
def Kap.put (κ : Kap) (id : Nat) (p : Place) : Kap := { κ with loc := fun i => if i = id then some p else κ.loc i }
theorem heap_alloc_old (w : World) (o : Obj) {b : Nat} (hb : b < w.heap.size) : (w.alloc o).heap[b]? = w.heap[b]? := by
 show (w.heap.push o)[b]? = _
 rw [Array.getElem?_push, if_neg (by omega)]
theorem heap_alloc_self (w : World) (o : Obj) : (w.alloc o).heap[w.heap.size]? = some o := by
 show (w.heap.push o)[w.heap.size]? = _
 simp
theorem Le.alloc [Globs] {κ : Kap} {h : AHeap} {w : World} (hi : Inv κ h w) (o : Obj) {id : Nat} (hid : κ.loc id = none) (p : Place) : Le κ w (κ.put id p) (w.alloc o) :=
 ⟨fun b hb => ⟨hb, heap_alloc_old w o (hi.immLt b hb)⟩, fun i q hq => ⟨q, by
  have : i ≠ id := fun e => by subst e; rw [hid] at hq; cases hq
  simp [Kap.put, this, hq], Nat.le_refl _, fun _ => rfl, PLe.refl q⟩⟩
theorem Inv.alloc [Globs] {κ : Kap} {h : AHeap} {w : World} (hi : Inv κ h w) {id : Nat} (hid : κ.loc id = none) (hf : h.f id = none) (ob : Obj) (o : AObj) (p : Place) (hp : p.blk = w.heap.size) (hpo : p.old = [])
  (hl : o.live = true) (hr : ObjRep (κ.put id p) (w.alloc ob) p o) : Inv (κ.put id p) (h.set id o) (w.alloc ob) ∧ Ev κ h w (κ.put id p) (h.set id o) (w.alloc ob) := by
 have le := Le.alloc (κ := κ) hi ob hid p
 have old : ∀ i q, κ.loc i = some q → i ≠ id := fun i q hq e => by subst e; rw [hid] at hq; cases hq
 constructor
 ·refine ⟨fun b hb => ?_, fun i q hq => ?_, ?_, fun i o' ho' => ?_, fun i j oi oj pi pj b ei ej li lj qi qj hbi hbj => ?_, hi.glob.mono le⟩
  ·have := hi.immLt b hb
   simp; omega
  ·simp only [Kap.put] at hq
   split at hq
   ·cases hq; simp; omega
   ·have := hi.locLt i q hq
    simp; omega
  ·obtain ⟨N, hN⟩ := hi.fresh
   refine ⟨max N (id + 1), fun i hle => ?_⟩
   have : i ≠ id := by omega
   simp only [Kap.put, this, if_false]
   exact hN i (by omega)
  ·simp only [AHeap.set_f] at ho'
   split at ho'
   ·rename_i e
    cases ho'
    exact ⟨p, by simp [Kap.put, e], hr⟩
   ·rename_i e
    obtain ⟨q, hq, hr'⟩ := hi.obj i o' ho'
    exact ⟨q, by simp [Kap.put, e, hq], hr'.mono le (fun b hb => heap_alloc_old w ob (hi.own_lt ho' hq hb)) fun _ _ x => x⟩
  ·simp only [AHeap.set_f, Kap.put] at ei ej qi qj
   by_cases e1 : i = id <;> by_cases e2 : j = id
   ·rw [e1, e2]
   ·simp only [e1, e2, if_true, if_false, Option.some.injEq] at qi qj ej
    have := hi.own_lt ej qj hbj
    subst qi
    have := hbi.of_old hpo
    omega
   ·simp only [e1, e2, if_true, if_false, Option.some.injEq] at qi qj ei
    have := hi.own_lt ei qi hbi
    subst qj
    have := hbj.of_old hpo
    omega
   ·simp only [e1, e2, if_false] at ei ej qi qj
    exact hi.inj i j oi oj pi pj b ei ej li lj qi qj hbi hbj
 ·refine ⟨rfl, rfl, rfl, by simp, fun b hb _ => heap_alloc_old w ob hb, fun _ h => h, fun _ _ h => .inl h, le.loc, fun i q hq _ => by simp [Kap.put, old i q hq, hq], fun b hb ho => ?_, fun i q hq hn => by simp [old i q hq, hn]⟩
  obtain ⟨i, o', q, h1, h2, h3, h4⟩ := ho
  simp only [AHeap.set_f, Kap.put] at h1 h3
  by_cases e : i = id
  ·simp only [e, if_true, Option.some.injEq] at h3
   subst h3
   have := h4.of_old hpo
   omega
  ·simp only [e, if_false] at h1 h3
   exact ⟨i, o', q, h1, h2, h3, h4⟩
theorem Inv.alloc_imm [Globs] {κ : Kap} {h : AHeap} {w : World} (hi : Inv κ h w) (ob : Obj) :
  Inv { κ with imm := fun b => κ.imm b ∨ b = w.heap.size } h (w.alloc ob) ∧ Ev κ h w { κ with imm := fun b => κ.imm b ∨ b = w.heap.size } h (w.alloc ob) := by
 have le : Le κ w { κ with imm := fun b => κ.imm b ∨ b = w.heap.size } (w.alloc ob) :=
  ⟨fun b hb => ⟨.inl hb, heap_alloc_old w ob (hi.immLt b hb)⟩, (Le.refl κ w).loc⟩
 constructor
 ·refine ⟨fun b hb => ?_, fun i q hq => ?_, hi.fresh, fun i o' ho' => ?_, hi.inj, hi.glob.mono le⟩
  ·rcases hb with hb | hb
   ·have := hi.immLt b hb
    simp; omega
   ·simp; omega
  ·have := hi.locLt i q hq
   simp; omega
  ·obtain ⟨q, hq, hr'⟩ := hi.obj i o' ho'
   exact ⟨q, hq, hr'.mono le (fun b hb => heap_alloc_old w ob (hi.own_lt ho' hq hb)) fun b hb x => x.resolve_right (by have := hi.own_lt ho' hq hb; omega)⟩
 ·exact { Ev.refl κ h w with
   size := by simp
   blocks := fun b hb _ => heap_alloc_old w ob hb
   imm := fun b hb => .inl hb
   immN := fun b hb hx => .inl (hx.resolve_right (by omega)) }
theorem Inv.changeA [Globs] {κ : Kap} {h : AHeap} {w w' : World} (hi : Inv κ h w) {id : Nat} {o o' : AObj} {p p' : Place} (ho : h.f id = some o) (hp : κ.loc id = some p) (hl : o.live = true) (hl' : o'.live = true)
  (hsz : w.heap.size ≤ w'.heap.size) (hp' : p'.blk < w'.heap.size) (hblk : ∀ b, Own o' p' b → Own o p b ∨ w.heap.size ≤ b) (hver : p.ver ≤ p'.ver) (hv1 : p'.ver = p.ver → p' = p) (hv2 : PLe p p')
  (e1 : w'.os = w.os) (e2 : w'.tape = w.tape) (e3 : w'.output = w.output)
  (hb : ∀ b, b < w.heap.size → ¬ Own o p b → w'.heap[b]? = w.heap[b]?) (hr : ObjRep (κ.put id p') w' p' o') :
  Inv (κ.put id p') (h.set id o') w' ∧ Ev κ h w (κ.put id p') (h.set id o') w' := by
 have own : ∀ b, Own o p b → Owned κ h b := fun b hb => ⟨id, o, p, ho, hl, hp, hb⟩
 have le : Le κ w (κ.put id p') w' := by
  refine ⟨fun b hbi => ⟨hbi, hb b (hi.immLt b hbi) fun e => hi.owned_not_imm (own b e) hbi⟩, fun i q hq => ?_⟩
  by_cases e : i = id
  ·subst e
   rw [hp] at hq
   cases hq
   exact ⟨p', by simp [Kap.put], hver, hv1, hv2⟩
  ·exact ⟨q, by simp [Kap.put, e, hq], Nat.le_refl _, fun _ => rfl, PLe.refl q⟩
 constructor
 ·refine ⟨fun b hb' => ?_, fun i q hq => ?_, ?_, fun i o1 ho1 => ?_, fun i j oi oj pi pj b ei ej li lj qi qj hbi hbj => ?_, hi.glob.mono le⟩
  ·have := hi.immLt b hb'
   omega
  ·simp only [Kap.put] at hq
   split at hq
   ·cases hq; exact hp'
   ·have := hi.locLt i q hq
    omega
  ·obtain ⟨N, hN⟩ := hi.fresh
   refine ⟨N, fun i hle => ?_⟩
   have : i ≠ id := fun e => by subst e; rw [hN i hle] at hp; cases hp
   simp only [Kap.put, this, if_false]
   exact hN i hle
  ·simp only [AHeap.set_f] at ho1
   split at ho1
   ·rename_i e
    cases ho1
    exact ⟨p', by simp [Kap.put, e], hr⟩
   ·rename_i e
    obtain ⟨q, hq, hr'⟩ := hi.obj i o1 ho1
    refine ⟨q, by simp [Kap.put, e, hq], hr'.mono le (fun b hbo => ?_) fun _ _ x => x⟩
    refine hb b (hi.own_lt ho1 hq hbo) fun eb => ?_
    by_cases hl1 : o1.live = true
    ·exact e (hi.inj i id o1 o q p b ho1 ho hl1 hl hq hp hbo eb)
    ·have : κ.imm b := by
      cases o1 with
      | row sz ver xs fz =>
       have hbb := hbo.of_ne (by simp)
       exact hbb ▸ hr'.2.2.2.1 (by simpa [AObj.live] using hl1)
      | _ => simp [AObj.live] at hl1
     exact hi.owned_not_imm (own b eb) this
  ·simp only [AHeap.set_f, Kap.put] at ei ej qi qj
   by_cases e1 : i = id <;> by_cases e2 : j = id
   ·rw [e1, e2]
   ·simp only [e1, e2, if_true, if_false, Option.some.injEq] at ei ej qi qj
    subst qi ei
    rcases hblk b hbi with hk | hk
    ·exact absurd (hi.inj id j o oj p pj b ho ej hl lj hp qj hk hbj) (Ne.symm e2)
    ·have := hi.own_lt ej qj hbj
     omega
   ·simp only [e1, e2, if_true, if_false, Option.some.injEq] at ei ej qi qj
    subst qj ej
    rcases hblk b hbj with hk | hk
    ·exact absurd (hi.inj i id oi o pi p b ei ho li hl qi hp hbi hk) e1
    ·have := hi.own_lt ei qi hbi
     omega
   ·simp only [e1, e2, if_false] at ei ej qi qj
    exact hi.inj i j oi oj pi pj b ei ej li lj qi qj hbi hbj
 ·refine ⟨e1, e2, e3, hsz, fun b hlt hno => hb b hlt fun e => hno (own b e), fun _ h => h, fun _ _ h => .inl h, le.loc, fun i q hq hn => ?_, fun b hlt hown => ?_, fun i q hq hn => ?_⟩
  ·have : i ≠ id := fun e => by subst e; rw [ho] at hn; cases hn
   simp [Kap.put, this, hq]
  ·obtain ⟨i, o1, q, h1, h2, h3, h4⟩ := hown
   simp only [AHeap.set_f, Kap.put] at h1 h3
   by_cases e : i = id
   ·simp only [e, if_true, Option.some.injEq] at h3 h1
    subst h3 h1
    rcases hblk b h4 with hk | hk
    ·exact own b hk
    ·omega
   ·simp only [e, if_false] at h1 h3
    exact ⟨i, o1, q, h1, h2, h3, h4⟩
  ·have : i ≠ id := fun e => by subst e; rw [ho] at hn; cases hn
   simp [this, hn]
theorem Inv.change [Globs] {κ : Kap} {h : AHeap} {w w' : World} (hi : Inv κ h w) {id : Nat} {o o' : AObj} {p p' : Place} (ho : h.f id = some o) (hp : κ.loc id = some p) (hl : o.live = true) (hl' : o'.live = true)
  (hsz : w.heap.size ≤ w'.heap.size) (hp' : p'.blk < w'.heap.size) (hblk : p'.blk = p.blk ∨ w.heap.size ≤ p'.blk) (hver : p.ver ≤ p'.ver) (hv1 : p'.ver = p.ver → p' = p) (hv2 : p.ver = 1 → p' = p)
  (e1 : w'.os = w.os) (e2 : w'.tape = w.tape) (e3 : w'.output = w.output)
  (hb : ∀ b, b < w.heap.size → b ≠ p.blk → w'.heap[b]? = w.heap[b]?) (hr : ObjRep (κ.put id p') w' p' o')
  (hpo : p' = p ∨ p'.old = [] := by first | exact .inl rfl | exact .inr rfl) (hn' : ∀ b, Own o' p' b → p'.blk = b := by intro b h; exact h.of_ne (by simp)) :
  Inv (κ.put id p') (h.set id o') w' ∧ Ev κ h w (κ.put id p') (h.set id o') w' := by
 refine hi.changeA ho hp hl hl' hsz hp' (fun b hbo => ?_) hver hv1 ?_ e1 e2 e3 (fun b hlt hno => hb b hlt fun e => hno (e ▸ Own.self)) hr
 ·rw [← hn' b hbo]
  rcases hblk with k | k
  ·exact .inl (k ▸ Own.self)
  ·exact .inr k
 ·rcases hpo with k | k
  ·subst k; exact PLe.refl _
  ·exact ⟨hv2, fun e he => by (rw [k] at he; cases he), fun e he => by (rw [k] at he; cases he)⟩
theorem Inv.freeze [Globs] {κ : Kap} {h : AHeap} {w : World} (hi : Inv κ h w) {r : Nat} {sz ver : Nat} {xs : List (List D)} (ho : h.f r = some (.row sz ver xs false)) :
  ∃ κ', Inv κ' (h.set r (.row sz ver xs true)) w ∧ Ev κ h w κ' (h.set r (.row sz ver xs true)) w ∧ κ'.loc = κ.loc := by
 obtain ⟨p, hp, hr⟩ := hi.obj r _ ho
 have own : Owned κ h p.blk := ⟨r, _, p, ho, rfl, hp, Own.self⟩
 let κ' : Kap := { κ with imm := fun b => κ.imm b ∨ b = p.blk }
 have le : Le κ w κ' w := ⟨fun b hb => ⟨.inl hb, rfl⟩, (Le.refl κ w).loc⟩
 refine ⟨κ', ?_, ?_, rfl⟩
 ·refine ⟨fun b hb => ?_, hi.locLt, hi.fresh, fun i o1 ho1 => ?_, fun i j oi oj pi pj b ei ej li lj qi qj hbi hbj => ?_, hi.glob.mono le⟩
  ·rcases hb with hb | hb
   ·exact hi.immLt b hb
   ·rw [hb]; exact hi.locLt r p hp
  ·simp only [AHeap.set_f] at ho1
   split at ho1
   ·rename_i e
    cases ho1
    subst e
    obtain ⟨h1, h1', h2, h3, h4, h5, h5', h6, cs, t, h7, h8, h9⟩ := hr
    exact ⟨p, hp, h1, h1', h2, fun _ => .inr rfl, fun e => (by cases e), h5, h5', h6, cs, t, h7, h8, fun i x j d hx hj => let ⟨v, e, r⟩ := h9 i x j d hx hj; ⟨v, e, r.mono le⟩⟩
   ·rename_i e
    obtain ⟨q, hq, hr'⟩ := hi.obj i o1 ho1
    by_cases hl1 : o1.live = true
    ·refine ⟨q, hq, hr'.mono le (fun _ _ => rfl) fun b hbo x => x.resolve_right fun eb => e (hi.inj i r o1 _ q p b ho1 ho hl1 rfl hq hp hbo (eb ▸ Own.self))⟩
    ·cases o1 with
     | row sz1 ver1 xs1 fz1 =>
      have hf : fz1 = true := by simpa [AObj.live] using hl1
      subst hf
      obtain ⟨h1, h1', h2, h3, h4, h5, h5', h6, cs, t, h7, h8, h9⟩ := hr'
      exact ⟨q, hq, h1, h1', h2, fun e => .inl (h3 e), fun e => (by cases e), h5, h5', h6, cs, t, h7, h8, fun i x j d hx hj => let ⟨v, e, r⟩ := h9 i x j d hx hj; ⟨v, e, r.mono le⟩⟩
     | _ => simp [AObj.live] at hl1
  ·have hne : ∀ k ok, (h.set r (.row sz ver xs true)).f k = some ok → ok.live = true → k ≠ r := fun k ok hk hlk e => by
    subst e
    simp only [AHeap.set_f, if_true, Option.some.injEq] at hk
    subst hk
    simp [AObj.live] at hlk
   have n1 := hne i oi ei li
   have n2 := hne j oj ej lj
   simp only [AHeap.set_f, n1, n2, if_false] at ei ej
   exact hi.inj i j oi oj pi pj b ei ej li lj qi qj hbi hbj
 ·refine { Ev.refl κ h w with imm := fun b hb => .inl hb, immN := fun b _ hx => hx.imp id fun e => (by rw [e]; exact own), own := fun b _ ho' => ?_, ids := fun id q hq hn => ?_ }
  ·obtain ⟨i, o1, q, h1, h2, h3, h4⟩ := ho'
   simp only [AHeap.set_f] at h1
   split at h1
   ·cases h1; simp [AObj.live] at h2
   ·exact ⟨i, o1, q, h1, h2, h3, h4⟩
  ·have : id ≠ r := fun e => by subst e; rw [ho] at hn; cases hn
   simp [this, hn]
def AHeap.union (h k : AHeap) : AHeap := ⟨fun i => match h.f i with | some o => some o | none => k.f i⟩
def AHeap.minus (h k : AHeap) : AHeap := ⟨fun i => match k.f i with | some _ => .none | .none => h.f i⟩
theorem Inv.frame [Globs] {κ κ' : Kap} {h h1 h1' : AHeap} {w w' : World} (hi : Inv κ h w) (hs : h1.sub h) (hi' : Inv κ' h1' w') (ev : Ev κ h1 w κ' h1' w') :
  Inv κ' (h1'.union (h.minus h1)) w' ∧ Ev κ h w κ' (h1'.union (h.minus h1)) w' ∧ ∀ i, h.f i ≠ none → h1.f i = none → h1'.f i = none := by
 have le := ev.le (hi.sub hs)
 have dis : ∀ i, h.f i ≠ none → h1.f i = none → h1'.f i = none := fun i hne hn => by
  cases e : h.f i with
  | none => exact absurd e hne
  | some o =>
   obtain ⟨p, hp, _⟩ := hi.obj i o e
   exact ev.ids i p hp hn
 have rest : ∀ i o, (h1'.union (h.minus h1)).f i = some o → h1'.f i = none → h.f i = some o ∧ h1.f i = none := fun i o he hn => by
  simp only [AHeap.union, hn, AHeap.minus] at he
  split at he
  ·cases he
  ·rename_i e; exact ⟨he, e⟩
 have notown : ∀ i o p b, h.f i = some o → h1.f i = none → κ.loc i = some p → o.live = true → Own o p b → ¬ Owned κ h1 b := fun i o p b e n q l hbo ⟨j, oj, pj, ej, lj, qj, hb⟩ => by
  have := hi.inj j i oj o pj p b (hs j oj ej) e lj l qj q hb hbo
  subst this
  rw [n] at ej
  cases ej
 have restRep : ∀ i o, h.f i = some o → h1.f i = none → ∃ p, κ'.loc i = some p ∧ κ.loc i = some p ∧ ObjRep κ' w' p o := fun i o e n => by
  obtain ⟨p, hp, hr⟩ := hi.obj i o e
  refine ⟨p, ev.locN i p hp n, hp, ?_⟩
  by_cases l : o.live = true
  ·have no := fun b hbo => notown i o p b e n hp l hbo
   exact hr.mono le (fun b hbo => ev.blocks b (hi.own_lt e hp hbo) (no b hbo)) fun b hbo x => (ev.immN b (hi.own_lt e hp hbo) x).resolve_right (no b hbo)
  ·cases o with
   | row sz ver xs fz =>
    have hf : fz = true := by simpa [AObj.live] using l
    subst hf
    have hb := le.imm _ (hr.2.2.2.1 rfl)
    exact hr.mono le (fun b hbo => by (have := hbo.of_ne (by simp)); subst this; exact hb.2) fun b hbo _ => by (have := hbo.of_ne (by simp)); subst this; exact hr.2.2.2.1 rfl
   | _ => simp [AObj.live] at l
 refine ⟨⟨hi'.immLt, hi'.locLt, hi'.fresh, fun i o he => ?_, fun i j oi oj pi pj b ei ej li lj qi qj hbi hbj => ?_, hi'.glob⟩, ⟨ev.os, ev.tape, ev.output, ev.size, fun b hb hno => ev.blocks b hb fun ho => hno (ho.sub hs), ev.imm, fun b hb hx => (ev.immN b hb hx).imp id fun ho => ho.sub hs, ev.loc, fun i p hp hn => ?_, fun b hb ho => ?_, fun i p hp hn => ?_⟩, dis⟩
 ·cases e : h1'.f i with
  | some o' =>
   have : o' = o := by simpa [AHeap.union, e] using he
   subst this
   exact hi'.obj i o' e
  | none =>
   obtain ⟨a, b⟩ := rest i o he e
   obtain ⟨p, q, _, r⟩ := restRep i o a b
   exact ⟨p, q, r⟩
 ·have live1 : ∀ k ok pk b, h1'.f k = some ok → ok.live = true → κ'.loc k = some pk → Own ok pk b → b < w.heap.size → Owned κ h1 b := fun k ok pk b e l q hbo hlt => ev.own _ hlt ⟨k, ok, pk, e, l, q, hbo⟩
  have cross : ∀ k ok pk m om pm b, h1'.f k = some ok → (h1'.union (h.minus h1)).f m = some om → h1'.f m = none → ok.live = true → om.live = true → κ'.loc k = some pk → κ'.loc m = some pm → Own ok pk b → Own om pm b → False := fun k ok pk m om pm b ek em nm lk lm qk qm hbk hbm => by
   obtain ⟨a, c⟩ := rest m om em nm
   obtain ⟨p, q1, q2, _⟩ := restRep m om a c
   rw [qm] at q1
   cases q1
   have hlt := hi.own_lt a q2 hbm
   exact notown m om pm b a c q2 lm hbm (live1 k ok pk b ek lk qk hbk hlt)
  cases e1 : h1'.f i with
  | some o1 =>
   have t1 : o1 = oi := by simpa [AHeap.union, e1] using ei
   subst t1
   cases e2 : h1'.f j with
   | some o2 =>
    have t2 : o2 = oj := by simpa [AHeap.union, e2] using ej
    subst t2
    exact hi'.inj i j o1 o2 pi pj b e1 e2 li lj qi qj hbi hbj
   | none => exact (cross i o1 pi j oj pj b e1 ej e2 li lj qi qj hbi hbj).elim
  | none =>
   cases e2 : h1'.f j with
   | some o2 =>
    have t2 : o2 = oj := by simpa [AHeap.union, e2] using ej
    subst t2
    exact (cross j o2 pj i oi pi b e2 ei e1 lj li qj qi hbj hbi).elim
   | none =>
    obtain ⟨a, b'⟩ := rest i oi ei e1
    obtain ⟨c, d⟩ := rest j oj ej e2
    obtain ⟨p, q1, q2, _⟩ := restRep i oi a b'
    obtain ⟨p', q1', q2', _⟩ := restRep j oj c d
    rw [qi] at q1
    rw [qj] at q1'
    cases q1
    cases q1'
    exact hi.inj i j oi oj pi pj b a c li lj q2 q2' hbi hbj
 ·refine ev.locN i p hp ?_
  cases e : h1.f i with
  | none => rfl
  | some o => rw [hs i o e] at hn; cases hn
 ·obtain ⟨i, o, p, e, l, q, hb'⟩ := ho
  cases e1 : h1'.f i with
  | some o1 =>
   have t1 : o1 = o := by simpa [AHeap.union, e1] using e
   subst t1
   exact (ev.own b hb ⟨i, o1, p, e1, l, q, hb'⟩).sub hs
  | none =>
   obtain ⟨a, c⟩ := rest i o e e1
   obtain ⟨p', q1, q2, _⟩ := restRep i o a c
   rw [q] at q1
   cases q1
   exact ⟨i, o, p, a, l, q2, hb'⟩
 ·have n1 : h1.f i = none := by
   cases e : h1.f i with
   | none => rfl
   | some o => rw [hs i o e] at hn; cases hn
  simp [AHeap.union, AHeap.minus, ev.ids i p hp n1, n1, hn]
end Go.Proofs.YtpagdhbmbnoddaaGreatDoor.Zz
