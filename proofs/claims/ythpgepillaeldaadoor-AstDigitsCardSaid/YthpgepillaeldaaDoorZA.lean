/- Values as plain data, an abstract heap, and how they stand to the model's values and worlds. -/
import Derived.CallsIn
import Derived.Laws.Sem
import Derived.Laws.World
import Derived.Laws.Strings
import Derived.Laws.AppendOwn
set_option linter.unusedVariables false
set_option linter.unusedSimpArgs false
namespace Go.Proofs.YthpgepillaeldaaDoor.Zz

/-- Plain data. Slices are lists of elements, each element its cells. -/
inductive D where
  | undef
  | bool (b : Bool)
  | int (k : IntKind) (n : Int)
  | float (k : FloatKind) (bits : Nat)
  | str (s : List UInt8)
  | nilptr
  | ptr (id ver off : Nat)
  | eptr (cells : List D) (off : Nat)
  | rptr (r ver i f : Nat)
  | nilsl
  | sl (xs : List (List D))
  | row (r ver off len : Nat)
  | csl (id off len : Nat)
  | agg (ds : List D)
  | tuple (ds : List D)
  | func (fn : Fn) (first cap : List D)
  | nilfunc
  | iface (t : TypeId) (d : D)
  | nilif
  | map (id : Nat)
  | nilmap
  | iter (id : Nat)

instance : Inhabited D := ⟨.undef⟩

/-- Where an object of the abstract heap lies: its block, the cell at which it begins, its version, for how many elements there is room, how many cells an element has. -/
structure Place where
  blk : Nat
  base : Nat
  ver : Nat
  cap : Nat
  sz : Nat

/-- An object that may change: cells; a row of elements that grows (fz: it does not change any more); a map. -/
inductive AObj where
  | cells (ds : List D)
  | row (sz ver : Nat) (xs : List (List D)) (fz : Bool)
  | map (es : List (D × D))
  | siter (s : List UInt8) (pos : Nat)
  | other

def AObj.live : AObj → Bool
  | .row _ _ _ fz => !fz
  | _ => true

structure AHeap where
  f : Nat → Option AObj

def AHeap.emp : AHeap := ⟨fun _ => .none⟩
def AHeap.set (h : AHeap) (id : Nat) (o : AObj) : AHeap := ⟨fun i => if i = id then some o else h.f i⟩
def AHeap.del (h : AHeap) (id : Nat) : AHeap := ⟨fun i => if i = id then .none else h.f i⟩

@[simp] theorem AHeap.emp_f (i : Nat) : AHeap.emp.f i = .none := rfl
@[simp] theorem AHeap.set_f (h : AHeap) (id i : Nat) (o : AObj) : (h.set id o).f i = if i = id then some o else h.f i := rfl
@[simp] theorem AHeap.del_f (h : AHeap) (id i : Nat) : (h.del id).f i = if i = id then .none else h.f i := rfl
theorem AHeap.ext {h k : AHeap} (e : ∀ i, h.f i = k.f i) : h = k := by
  cases h; cases k; congr; exact funext e
theorem AHeap.set_set (h : AHeap) (id : Nat) (o p : AObj) : (h.set id o).set id p = h.set id p :=
  AHeap.ext fun i => by simp only [AHeap.set_f]; split <;> rfl
theorem AHeap.set_comm (h : AHeap) {i j : Nat} (o p : AObj) (hij : i ≠ j) : (h.set i o).set j p = (h.set j p).set i o :=
  AHeap.ext fun k => by simp only [AHeap.set_f]; split <;> split <;> simp_all

/-- What is told of the blocks: which do not change any more; where the objects lie. -/
structure Kap where
  imm : Nat → Prop
  loc : Nat → Option Place

/-- A value reads as a datum. -/
inductive Rep (κ : Kap) (w : World) : Value → D → Prop
  | undef (v : Value) : Rep κ w v .undef
  | bool (b : Bool) : Rep κ w (.bool b) (.bool b)
  | int (k : IntKind) (n : Int) : Rep κ w (.int k n) (.int k n)
  | float (k : FloatKind) (n : Nat) : Rep κ w (.float k n) (.float k n)
  | str (s : List UInt8) (h : s.length ≤ 9223372036854775807) : Rep κ w (.string ⟨s.toArray⟩) (.str s)
  | nilptr : Rep κ w (.pointer none) .nilptr
  | ptr {id ver off : Nat} {p : Place} {a : Addr} (hl : κ.loc id = some p) (hv : ver ≤ p.ver) (ha : p.ver = ver → a = ⟨p.blk, p.base + off, none⟩) : Rep κ w (.pointer (some a)) (.ptr id ver off)
  | eptr {b base off : Nat} {cells : List D} (f : Nat → Value) (hb : κ.imm b) (hc : ∀ j d, cells[j]? = some d → w.cell? ⟨b, base + j, none⟩ = some (f j)) (hr : ∀ j d, cells[j]? = some d → Rep κ w (f j) d) :
      Rep κ w (.pointer (some ⟨b, base + off, none⟩)) (.eptr cells off)
  | rptr {r ver i f : Nat} {p : Place} {a : Addr} (hl : κ.loc r = some p) (hv : ver ≤ p.ver) (ha : p.ver = ver → a = ⟨p.blk, p.base + i * p.sz + f, none⟩) : Rep κ w (.pointer (some a)) (.rptr r ver i f)
  | nilsl : Rep κ w (.slice none 0 0) .nilsl
  | slnil {ba : Option Addr} {cap : Nat} (hb : ba = .none → cap = 0) : Rep κ w (.slice ba 0 cap) (.sl [])
  | sl {b o sz cap : Nat} {xs : List (List D)} (f : Nat → Nat → Value) (hn : xs.length ≤ 9223372036854775807) (hcap : xs.length ≤ cap) (hsz : ∀ x ∈ xs, x.length = sz)
      (hc : ∀ i x j d, xs[i]? = some x → x[j]? = some d → κ.imm b ∧ w.cell? ⟨b, o + i * sz + j, none⟩ = some (f i j)) (hr : ∀ i x j d, xs[i]? = some x → x[j]? = some d → Rep κ w (f i j) d) :
      Rep κ w (.slice (some ⟨b, o, none⟩) xs.length cap) (.sl xs)
  | row {r ver off len cap : Nat} {p : Place} {a : Addr} (hl : κ.loc r = some p) (hv : ver ≤ p.ver) (hn : len ≤ 9223372036854775807) (hcap : len ≤ cap)
      (ha : p.ver = ver → cap = 0 ∨ (a = ⟨p.blk, p.base + off * p.sz, none⟩ ∧ off + cap = p.cap)) : Rep κ w (.slice (some a) len cap) (.row r ver off len)
  | csl {id off len cap : Nat} {p : Place} {a : Addr} (hl : κ.loc id = some p) (hv : 1 ≤ p.ver) (hn : len ≤ 9223372036854775807) (hcap : len ≤ cap)
      (ha : p.ver = 1 → cap = 0 ∨ a = ⟨p.blk, p.base + off, none⟩) : Rep κ w (.slice (some a) len cap) (.csl id off len)
  | agg {cs : Array Value} {ds : List D} (hs : cs.size = ds.length) (hr : ∀ i d, ds[i]? = some d → Rep κ w (cs.getD i (.tuple #[])) d) : Rep κ w (.agg cs) (.agg ds)
  | tuple {cs : Array Value} {ds : List D} (hs : cs.size = ds.length) (hr : ∀ i d, ds[i]? = some d → Rep κ w (cs.getD i (.tuple #[])) d) : Rep κ w (.tuple cs) (.tuple ds)
  | func {fn : Fn} {v1 v2 : Array Value} {d1 d2 : List D} (hs1 : v1.size = d1.length) (hs2 : v2.size = d2.length) (hr1 : ∀ i d, d1[i]? = some d → Rep κ w (v1.getD i (.tuple #[])) d)
      (hr2 : ∀ i d, d2[i]? = some d → Rep κ w (v2.getD i (.tuple #[])) d) : Rep κ w (.func fn v1 v2) (.func fn d1 d2)
  | nilfunc : Rep κ w .nilFunc .nilfunc
  | iface {t : TypeId} {v : Value} {d : D} (hr : Rep κ w v d) : Rep κ w (.iface t v) (.iface t d)
  | nilif : Rep κ w .nilIface .nilif
  | map {id : Nat} {p : Place} (hl : κ.loc id = some p) (hv : p.ver = 1) : Rep κ w (.map (some p.blk)) (.map id)
  | nilmap : Rep κ w (.map none) .nilmap
  | iter {id : Nat} {p : Place} (hl : κ.loc id = some p) (hv : p.ver = 1) : Rep κ w (.pointer (some ⟨p.blk, 0, none⟩)) (.iter id)

theorem Rep.sl_of {κ : Kap} {w : World} {b o sz cap len : Nat} {xs : List (List D)} (e : len = xs.length) (f : Nat → Nat → Value) (hn : xs.length ≤ 9223372036854775807) (hcap : xs.length ≤ cap) (hsz : ∀ x ∈ xs, x.length = sz)
      (hc : ∀ (i : Nat) (x : List D) (j : Nat) (d : D), xs[i]? = some x → x[j]? = some d → κ.imm b ∧ w.cell? ⟨b, o + i * sz + j, none⟩ = some (f i j)) (hr : ∀ (i : Nat) (x : List D) (j : Nat) (d : D), xs[i]? = some x → x[j]? = some d → Rep κ w (f i j) d) :
      Rep κ w (.slice (some ⟨b, o, none⟩) len cap) (.sl xs) := by subst e; exact .sl f hn hcap hsz hc hr

/-- What was told stays told. -/
structure Le (κ : Kap) (w : World) (κ' : Kap) (w' : World) : Prop where
  imm : ∀ b, κ.imm b → κ'.imm b ∧ w'.heap[b]? = w.heap[b]?
  loc : ∀ id p, κ.loc id = some p → ∃ p', κ'.loc id = some p' ∧ p.ver ≤ p'.ver ∧ (p'.ver = p.ver → p' = p) ∧ (p.ver = 1 → p' = p)

theorem Le.refl (κ : Kap) (w : World) : Le κ w κ w := ⟨fun _ h => ⟨h, rfl⟩, fun _ p h => ⟨p, h, Nat.le_refl _, fun _ => rfl, fun _ => rfl⟩⟩

theorem Rep.mono {κ κ' : Kap} {w w' : World} {v : Value} {d : D} (h : Rep κ w v d) (le : Le κ w κ' w') : Rep κ' w' v d := by
  induction h with
  | undef v => exact .undef v
  | bool b => exact .bool b
  | int k n => exact .int k n
  | float k n => exact .float k n
  | str s h => exact .str s h
  | nilptr => exact .nilptr
  | ptr hl hv ha =>
    obtain ⟨p', h1, h2, h3, _⟩ := le.loc _ _ hl
    exact .ptr h1 (Nat.le_trans hv h2) fun e => by
      have e' : p'.ver = _ := Nat.le_antisymm (e ▸ hv) h2
      rw [h3 e']; exact ha (by rw [← e', e])
  | eptr f hb hc hr ih =>
    exact .eptr f (le.imm _ hb).1 (fun j d hj => by rw [World.cell?_of_block (w := w) (le.imm _ hb).2]; exact hc j d hj) ih
  | rptr hl hv ha =>
    obtain ⟨p', h1, h2, h3, _⟩ := le.loc _ _ hl
    exact .rptr h1 (Nat.le_trans hv h2) fun e => by
      have e' : p'.ver = _ := Nat.le_antisymm (e ▸ hv) h2
      rw [h3 e']; exact ha (by rw [← e', e])
  | nilsl => exact .nilsl
  | slnil hb => exact .slnil hb
  | sl f hn hcap hsz hc hr ih =>
    exact .sl f hn hcap hsz (fun i x j d hi hj => by
      obtain ⟨h1, h2⟩ := hc i x j d hi hj
      exact ⟨(le.imm _ h1).1, by rw [World.cell?_of_block (w := w) (le.imm _ h1).2]; exact h2⟩) ih
  | row hl hv hn hcap ha =>
    obtain ⟨p', h1, h2, h3, _⟩ := le.loc _ _ hl
    exact .row h1 (Nat.le_trans hv h2) hn hcap fun e => by
      have e' : p'.ver = _ := Nat.le_antisymm (e ▸ hv) h2
      rw [h3 e']; exact ha (by rw [← e', e])
  | csl hl hv hn hcap ha =>
    obtain ⟨p', h1, h2, h3, _⟩ := le.loc _ _ hl
    exact .csl h1 (Nat.le_trans hv h2) hn hcap fun e => by
      have e' : p'.ver = _ := Nat.le_antisymm (e ▸ hv) h2
      rw [h3 e']; exact ha (by rw [← e', e])
  | agg hs hr ih => exact .agg hs ih
  | tuple hs hr ih => exact .tuple hs ih
  | func hs1 hs2 hr1 hr2 ih1 ih2 => exact .func hs1 hs2 ih1 ih2
  | nilfunc => exact .nilfunc
  | iface hr ih => exact .iface ih
  | nilif => exact .nilif
  | map hl hv =>
    obtain ⟨p', h1, h2, h3, h4⟩ := le.loc _ _ hl
    have := h4 hv
    subst this
    exact .map h1 hv
  | nilmap => exact .nilmap
  | iter hl hv =>
    obtain ⟨p', h1, h2, h3, h4⟩ := le.loc _ _ hl
    have := h4 hv
    subst this
    exact .iter h1 hv

/-- How an object of the abstract heap stands in the world. -/
def ObjRep (κ : Kap) (w : World) (p : Place) : AObj → Prop
  | .cells ds => p.ver = 1 ∧ p.base = 0 ∧ ¬ κ.imm p.blk ∧ ∃ (cs : Array Value) (t : TypeId), w.heap[p.blk]? = some (.cells cs t (0, 0)) ∧ cs.size = ds.length ∧ ∀ (i : Nat) (d : D), ds[i]? = some d → ∃ v, cs[i]? = some v ∧ Rep κ w v d
  | .row sz ver xs fz => p.ver = ver ∧ 2 ≤ ver ∧ p.sz = sz ∧ (fz = true → κ.imm p.blk) ∧ (fz = false → ¬ κ.imm p.blk) ∧ xs.length ≤ p.cap ∧ p.cap ≤ 9223372036854775807 ∧ (∀ x ∈ xs, x.length = sz) ∧
      ∃ (cs : Array Value) (t : TypeId), w.heap[p.blk]? = some (.cells cs t (0, 0)) ∧ p.base + p.cap * sz ≤ cs.size ∧
        ∀ (i : Nat) (x : List D) (j : Nat) (d : D), xs[i]? = some x → x[j]? = some d → ∃ v, cs[p.base + i * sz + j]? = some v ∧ Rep κ w v d
  | .map es => p.ver = 1 ∧ ¬ κ.imm p.blk ∧ ∃ (ms : Array MapEntry) (clock : Nat), w.heap[p.blk]? = some (.map ms clock) ∧ ms.size = es.length ∧ ∀ (i : Nat) (kv : D × D), es[i]? = some kv → ∃ m : MapEntry, ms[i]? = some m ∧ Rep κ w m.key kv.1 ∧ Rep κ w m.val kv.2
  | .siter s pos => p.ver = 1 ∧ ¬ κ.imm p.blk ∧ w.heap[p.blk]? = some (.stringIter ⟨s.toArray⟩ pos)
  | .other => p.ver = 1 ∧ ¬ κ.imm p.blk

/-- What the package-level variables hold that the code reads: their blocks, their cells; of some, that they hold a whole number. -/
class Globs where
  of : Nat → Option (List D)
  ints : Nat → Option IntKind
structure GlobRep [Globs] (κ : Kap) (w : World) : Prop where
  of : ∀ g ds, Globs.of g = some ds → κ.imm g ∧ ∃ (cs : Array Value) (t : TypeId), w.heap[g]? = some (.cells cs t (0, 0)) ∧ cs.size = ds.length ∧ ∀ (j : Nat) (d : D), ds[j]? = some d → ∃ v, cs[j]? = some v ∧ Rep κ w v d
  ints : ∀ g k, Globs.ints g = some k → κ.imm g ∧ ∃ m : Int, w.cell? ⟨g, 0, none⟩ = some (.int k m)
theorem GlobRep.mono [Globs] {κ κ' : Kap} {w w' : World} (h : GlobRep κ w) (le : Le κ w κ' w') : GlobRep κ' w' := by
  constructor
  · intro g ds e
    obtain ⟨h1, cs, t, h2, h3, h4⟩ := h.of g ds e
    refine ⟨(le.imm g h1).1, cs, t, (le.imm g h1).2.trans h2, h3, fun j d hj => ?_⟩
    obtain ⟨v, h5, h6⟩ := h4 j d hj
    exact ⟨v, h5, h6.mono le⟩
  · intro g k e
    obtain ⟨h1, m, h2⟩ := h.ints g k e
    exact ⟨(le.imm g h1).1, m, by rw [World.cell?_of_block (w := w) (le.imm g h1).2]; exact h2⟩
theorem GlobRep.rep [Globs] {κ : Kap} {w : World} (h : GlobRep κ w) {g : Nat} {ds : List D} (e : Globs.of g = some ds) : Rep κ w (.pointer (some ⟨g, 0, none⟩)) (.eptr ds 0) := by
  obtain ⟨h1, cs, t, h2, h3, h4⟩ := h.of g ds e
  have := Rep.eptr (κ := κ) (w := w) (b := g) (base := 0) (off := 0) (cells := ds) (fun j => cs.getD j (.tuple #[])) h1 (fun j d hj => by
    obtain ⟨v, h5, _⟩ := h4 j d hj
    simp [World.cell?, h2, h5, Array.getD_eq_getD_getElem?]) (fun j d hj => by
    obtain ⟨v, h5, h6⟩ := h4 j d hj
    show Rep κ w (cs.getD j (.tuple #[])) d
    rw [Array.getD_eq_getD_getElem?, h5]
    exact h6)
  simpa using this
structure Inv [Globs] (κ : Kap) (h : AHeap) (w : World) : Prop where
  immLt : ∀ b, κ.imm b → b < w.heap.size
  locLt : ∀ id p, κ.loc id = some p → p.blk < w.heap.size
  fresh : ∃ N, ∀ id, N ≤ id → κ.loc id = none
  obj : ∀ id o, h.f id = some o → ∃ p, κ.loc id = some p ∧ ObjRep κ w p o
  inj : ∀ i j oi oj pi pj, h.f i = some oi → h.f j = some oj → oi.live = true → oj.live = true → κ.loc i = some pi → κ.loc j = some pj → pi.blk = pj.blk → i = j
  glob : GlobRep κ w

/-- The blocks that the objects of the heap at hand may write. -/
def Owned (κ : Kap) (h : AHeap) (b : Nat) : Prop := ∃ id o p, h.f id = some o ∧ o.live = true ∧ κ.loc id = some p ∧ p.blk = b

theorem ObjRep.not_imm {κ : Kap} {w : World} {p : Place} {o : AObj} (h : ObjRep κ w p o) (hl : o.live = true) : ¬ κ.imm p.blk := by
  cases o with
  | cells ds => exact h.2.2.1
  | row sz ver xs fz => exact h.2.2.2.2.1 (by simpa [AObj.live] using hl)
  | map es => exact h.2.1
  | siter s pos => exact h.2.1
  | other => exact h.2

theorem Inv.owned_not_imm [Globs] {κ : Kap} {h : AHeap} {w : World} (hi : Inv κ h w) {b : Nat} (ho : Owned κ h b) : ¬ κ.imm b := by
  obtain ⟨id, o, p, h1, h2, h3, rfl⟩ := ho
  obtain ⟨p', h4, h5⟩ := hi.obj id o h1
  rw [h3] at h4
  cases h4
  exact h5.not_imm h2

theorem Inv.owned_lt [Globs] {κ : Kap} {h : AHeap} {w : World} (hi : Inv κ h w) {b : Nat} (ho : Owned κ h b) : b < w.heap.size := by
  obtain ⟨id, o, p, h1, h2, h3, rfl⟩ := ho
  exact hi.locLt _ _ h3

/-- What a run has done: to blocks that are not its own, nothing. -/
structure Ev (κ : Kap) (h : AHeap) (w : World) (κ' : Kap) (h' : AHeap) (w' : World) : Prop where
  os : w'.os = w.os
  tape : w'.tape = w.tape
  output : w'.output = w.output
  size : w.heap.size ≤ w'.heap.size
  blocks : ∀ b, b < w.heap.size → ¬ Owned κ h b → w'.heap[b]? = w.heap[b]?
  imm : ∀ b, κ.imm b → κ'.imm b
  immN : ∀ b, b < w.heap.size → κ'.imm b → κ.imm b ∨ Owned κ h b
  loc : ∀ id p, κ.loc id = some p → ∃ p', κ'.loc id = some p' ∧ p.ver ≤ p'.ver ∧ (p'.ver = p.ver → p' = p) ∧ (p.ver = 1 → p' = p)
  locN : ∀ id p, κ.loc id = some p → h.f id = none → κ'.loc id = some p
  own : ∀ b, b < w.heap.size → Owned κ' h' b → Owned κ h b
  ids : ∀ id p, κ.loc id = some p → h.f id = none → h'.f id = none

theorem Ev.refl (κ : Kap) (h : AHeap) (w : World) : Ev κ h w κ h w :=
  ⟨rfl, rfl, rfl, Nat.le_refl _, fun _ _ _ => rfl, fun _ h => h, fun _ _ h => .inl h, fun _ p h => ⟨p, h, Nat.le_refl _, fun _ => rfl, fun _ => rfl⟩, fun _ _ h _ => h, fun _ _ h => h, fun _ _ _ h => h⟩

theorem Ev.trans {κ κ1 κ2 : Kap} {h h1 h2 : AHeap} {w w1 w2 : World} (a : Ev κ h w κ1 h1 w1) (b : Ev κ1 h1 w1 κ2 h2 w2) : Ev κ h w κ2 h2 w2 where
  os := b.os.trans a.os
  tape := b.tape.trans a.tape
  output := b.output.trans a.output
  size := Nat.le_trans a.size b.size
  blocks := fun x hx ho => (b.blocks x (Nat.lt_of_lt_of_le hx a.size) (fun h => ho (a.own x hx h))).trans (a.blocks x hx ho)
  imm := fun x hx => b.imm x (a.imm x hx)
  immN := fun x hx hi => by
    rcases b.immN x (Nat.lt_of_lt_of_le hx a.size) hi with h | h
    · exact a.immN x hx h
    · exact .inr (a.own x hx h)
  loc := fun id p hp => by
    obtain ⟨p1, e1, l1, s1, t1⟩ := a.loc id p hp
    obtain ⟨p2, e2, l2, s2, t2⟩ := b.loc id p1 e1
    refine ⟨p2, e2, Nat.le_trans l1 l2, fun e => ?_, fun e => ?_⟩
    · have : p1.ver = p.ver := Nat.le_antisymm (e ▸ l2) l1
      rw [s2 (e.trans this.symm), s1 this]
    · rw [t2 (by rw [t1 e]; exact e), t1 e]
  locN := fun id p hp hn => b.locN id p (a.locN id p hp hn) (a.ids id p hp hn)
  own := fun x hx h => a.own x hx (b.own x (Nat.lt_of_lt_of_le hx a.size) h)
  ids := fun id p hp hn => b.ids id p (a.locN id p hp hn) (a.ids id p hp hn)

theorem Ev.le [Globs] {κ κ' : Kap} {h h' : AHeap} {w w' : World} (e : Ev κ h w κ' h' w') (hi : Inv κ h w) : Le κ w κ' w' :=
  ⟨fun b hb => ⟨e.imm b hb, e.blocks b (hi.immLt b hb) fun ho => hi.owned_not_imm ho hb⟩, e.loc⟩

/-- Objects of which nothing more is told. -/
def AHeap.sub (h' h : AHeap) : Prop := ∀ id o, h'.f id = some o → h.f id = some o

theorem AHeap.sub_refl (h : AHeap) : h.sub h := fun _ _ e => e
theorem AHeap.emp_sub (h : AHeap) : AHeap.emp.sub h := fun _ _ e => by simp at e

theorem Inv.sub [Globs] {κ : Kap} {h h' : AHeap} {w : World} (hi : Inv κ h w) (hs : h'.sub h) : Inv κ h' w :=
  ⟨hi.immLt, hi.locLt, hi.fresh, fun id o e => hi.obj id o (hs id o e), fun i j oi oj pi pj e1 e2 => hi.inj i j oi oj pi pj (hs i oi e1) (hs j oj e2), hi.glob⟩

theorem Owned.sub {κ : Kap} {h h' : AHeap} {b : Nat} (ho : Owned κ h' b) (hs : h'.sub h) : Owned κ h b := by
  obtain ⟨id, o, p, h1, h2⟩ := ho
  exact ⟨id, o, p, hs id o h1, h2⟩

theorem Ev.sub {κ κ' : Kap} {h h' h'' : AHeap} {w w' : World} (e : Ev κ h w κ' h' w') (hs : h''.sub h') : Ev κ h w κ' h'' w' :=
  { e with
    own := fun b hb ho => e.own b hb (ho.sub hs)
    ids := fun id p hp hn => by
      cases hh : h''.f id with
      | none => rfl
      | some o => rw [← e.ids id p hp hn, hs id o hh] }
end Go.Proofs.YthpgepillaeldaaDoor.Zz
