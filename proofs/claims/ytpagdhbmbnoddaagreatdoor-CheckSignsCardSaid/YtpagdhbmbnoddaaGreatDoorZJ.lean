/- The instructions that reckon, on: slices, indexes, fields, equalities. -/
import Derived.Test.YtpagdhbmbnoddaaGreatDoorZF
import Derived.Laws.Slices
import Derived.ChangeKeysEq
import Derived.Laws.StructEq
import Derived.Laws.Rows
import Derived.Deep.AppendSrc
set_option linter.unnecessarySimpa false
set_option linter.unusedVariables false
set_option linter.unusedSimpArgs false
namespace Go.Proofs.YtpagdhbmbnoddaaGreatDoor.Zz
variable {P : Program} {κ : Kap} {w : World}
inductive RepO (κ : Kap) (w : World) : Option Value → Option D → Prop
 | none : RepO κ w .none .none
 | some {v : Value} {d : D} (h : Rep κ w v d) : RepO κ w (.some v) (.some d)
theorem intOfD_rep {v : Value} {d : D} {i : Int} (r : Rep κ w v d) (e : intOfD d = some i) : ∃ k, v = .int k i := by
 unfold intOfD at e
 split at e
 ·cases e; cases r; exact ⟨_, rfl⟩
 ·cases e
theorem bounds_run {n cap : Nat} (hc : n ≤ cap) (isS : Bool) {lo hi : Option Value} {dlo dhi : Option D} (rl : RepO κ w lo dlo) (rh : RepO κ w hi dhi) {b : Nat × Nat} (e : bounds n dlo dhi = some b) :
  (Instr.sliceBounds isS n cap lo hi none).run P w = .ok (b.1, b.2, cap) w ∧ b.1 ≤ b.2 ∧ b.2 ≤ n := by
 unfold bounds at e
 split at e
 ·rename_i l u h1 h2
  split at e
  ·rename_i h3
   cases e
   obtain ⟨a1, a2, a3⟩ := h3
   have hu : ∀ k code, (Instr.sliceBound (.int k u) cap code).run P w = .ok u.toNat w := fun k code => run_sliceBound w k u cap code (by omega) (by omega)
   have hl : ∀ k code, (Instr.sliceBound (.int k l) u.toNat code).run P w = .ok l.toNat w := fun k code => run_sliceBound w k l u.toNat code (by omega) (by omega)
   refine ⟨?_, by simp; omega, by simp; omega⟩
   cases rl with
   | none =>
    simp at h1
    subst h1
    cases rh with
    | none =>
     simp at h2
     subst h2
     simp [Instr.sliceBounds]
    | some r =>
     obtain ⟨k, rfl⟩ := intOfD_rep r h2
     simp [Instr.sliceBounds, hu]
   | some r =>
    obtain ⟨k, rfl⟩ := intOfD_rep r h1
    cases rh with
    | none =>
     simp at h2
     subst h2
     have := hl k .sliceB
     simp at this
     simp [Instr.sliceBounds, this]
    | some r' =>
     obtain ⟨k', rfl⟩ := intOfD_rep r' h2
     simp [Instr.sliceBounds, hu, hl]
  ·cases e
 ·cases e
theorem mk_extract (s : List UInt8) (l u : Nat) : (⟨s.toArray⟩ : ByteArray).extract l u = ⟨((s.drop l).take (u - l)).toArray⟩ := by
 apply ByteArray.ext
 simp [List.extract_eq_take_drop]
theorem shape_slice {t e : TypeId} {sz : Nat} (ht : P.underlying t = some (.slice e)) (hs : sizeOfT P e = some sz) {lo hi : Option Value} {ba : Option Addr} {len cap l u : Nat} (hc : len ≤ cap)
  (hb : (Instr.sliceBounds true len cap lo hi none).run P w = .ok (l, u, cap) w) :
  (Instr.sliceAt t (.slice ba len cap) lo hi none).run P w = .ok (.slice (if cap = l then ba else ba.map (·.add (l * sz))) (u - l) (cap - l)) w := by
 simp [Instr.sliceAt, run_underlying ht, Instr.slice, hb, run_sizeOf hs]
theorem sliceEv_sound {k : SK} {t : TypeId} (hk : match k with
   | .str => P.underlying t = some .string
   | .sl sz => ∃ e, P.underlying t = some (.slice e) ∧ sizeOfT P e = some sz
   | .arr n => ∃ e, P.underlying t = some (.array n e) ∧ sizeOfT P e = some 1)
  {u : Value} {x d : D} {lo hi : Option Value} {dlo dhi : Option D} (hu : Rep κ w u x) (rl : RepO κ w lo dlo) (rh : RepO κ w hi dhi) (e : sliceEv k x dlo dhi none = some d) :
  ∃ v, (Instr.sliceAt t u lo hi none).run P w = .ok v w ∧ Rep κ w v d := by
 unfold sliceEv at e
 simp only at e
 split at e
 ·-- a string
  rename_i s
  simp only [Option.map_eq_some_iff] at e
  obtain ⟨b, eb, rfl⟩ := e
  cases hu with
  | str _ hs =>
  obtain ⟨hb, h1, h2⟩ := bounds_run (P := P) (κ := κ) (w := w) (Nat.le_refl s.length) false rl rh eb
  refine ⟨.string ⟨((s.drop b.1).take (b.2 - b.1)).toArray⟩, ?_, .str _ (by simp; omega)⟩
  simp only at hk
  simp [Instr.sliceAt, run_underlying hk, Instr.slice, size_mk, hb, mk_extract]
 ·-- plain elements
  rename_i sz xs
  obtain ⟨el, ht, hs⟩ := hk
  split at e
  ·rename_i hall
   simp only [Option.map_eq_some_iff] at e
   obtain ⟨b, eb, rfl⟩ := e
   cases hu with
   | slnil hb0 =>
    rename_i ba cap
    obtain ⟨hb, h1, h2⟩ := bounds_run (P := P) (κ := κ) (w := w) (Nat.zero_le cap) true rl rh eb
    have hb1 : b.1 = 0 := by simp at h2; omega
    have hb2 : b.2 = 0 := by simpa using h2
    rw [hb1, hb2] at hb ⊢
    refine ⟨_, shape_slice ht hs (Nat.zero_le cap) hb, ?_⟩
    simp only [Nat.zero_mul, Nat.sub_zero, Nat.sub_self, List.drop_zero, List.take_zero]
    refine .slnil fun e => ?_
    split at e
    ·exact hb0 e
    ·simp at e; exact hb0 e
   | sl f hn hcap hsz' hc hr =>
    rename_i bb o sz' cap
    obtain ⟨hb, h1, h2⟩ := bounds_run (P := P) (κ := κ) (w := w) hcap true rl rh eb
    have hss := shape_slice (ba := some ⟨bb, o, none⟩) ht hs hcap hb
    have hlen : ((xs.drop b.1).take (b.2 - b.1)).length = b.2 - b.1 := by simp; omega
    by_cases hx : b.1 = b.2
    ·have hnil : (xs.drop b.1).take (b.2 - b.1) = [] := by simp [hx]
     rw [hnil]
     refine ⟨_, hss, ?_⟩
     have e0 : b.2 - b.1 = ([] : List (List D)).length := by simp [hx]
     split
     ·exact .sl_of (sz := 0) e0 (fun _ _ => undef) (by simp) (by simp) (by simp) (by simp) (by simp)
     ·simp only [Option.map_some, add_off]
      exact .sl_of (sz := 0) e0 (fun _ _ => undef) (by simp) (by simp) (by simp) (by simp) (by simp)
    ·have hcl : ¬ cap = b.1 := by omega
     rw [if_neg hcl] at hss
     simp only [Option.map_some, add_off] at hss
     have hne : xs ≠ [] := by intro h; subst h; simp at h2; omega
     obtain ⟨y, hy⟩ := List.exists_mem_of_ne_nil xs hne
     have hszz : sz' = sz := by rw [← hsz' y hy, hall y hy]
     subst hszz
     refine ⟨_, hss, ?_⟩
     refine .sl_of (sz := sz') (cap := cap - b.1) hlen.symm (fun i j => f (b.1 + i) j) (by rw [hlen]; omega) (by rw [hlen]; omega) (fun z hz => hall z (List.mem_of_mem_drop (List.mem_of_mem_take hz))) (fun i z j q hi hj => ?_) (fun i z j q hi hj => ?_)
     ·rw [List.getElem?_take] at hi
      split at hi
      ·rw [List.getElem?_drop] at hi
       have := hc _ z j q hi hj
       rw [show o + b.1 * sz' + i * sz' + j = o + (b.1 + i) * sz' + j by rw [Nat.add_mul]; omega]
       exact this
      ·cases hi
     ·rw [List.getElem?_take] at hi
      split at hi
      ·rw [List.getElem?_drop] at hi
       exact hr _ z j q hi hj
      ·cases hi
  ·cases e
 ·-- an array's cells
  rename_i n id ver off
  obtain ⟨el, ht, hs⟩ := hk
  split at e
  ·rename_i hv1
   obtain ⟨hv1, hn⟩ := hv1
   simp only [Option.map_eq_some_iff] at e
   obtain ⟨b, eb, rfl⟩ := e
   cases hu with
   | ptr hl hv ha =>
    rename_i p ad
    subst hv1
    obtain ⟨hb, h1, h2⟩ := bounds_run (P := P) (κ := κ) (w := w) (Nat.le_refl n) false rl rh eb
    refine ⟨.slice (some (if n = b.1 then ad else ad.add (b.1 * 1))) (b.2 - b.1) (n - b.1), ?_, ?_⟩
    ·simp [Instr.sliceAt, run_underlying ht, Instr.sureAddr, hb, run_sizeOf hs]
    ·refine .csl hl hv (by omega) (by omega) fun ev => ?_
     split
     ·exact .inl (by omega)
     ·rw [ha ev, add_off]
      exact .inr (by simp [Nat.add_assoc])
  ·cases e
 ·cases e
theorem sliceRow_sound {sz r ver off len : Nat} {t el : TypeId} (ht : P.underlying t = some (.slice el)) (hs : sizeOfT P el = some sz) {u : Value} {lo hi : Option Value} {dlo dhi : Option D}
  (hu : Rep κ w u (.row r ver off len)) (rl : RepO κ w lo dlo) (rh : RepO κ w hi dhi) {b : Nat × Nat} (eb : bounds len dlo dhi = some b) (hsz : ∀ p, κ.loc r = some p → p.sz = sz) :
  ∃ v, (Instr.sliceAt t u lo hi none).run P w = .ok v w ∧ Rep κ w v (.row r ver (off + b.1) (b.2 - b.1)) := by
 cases hu with
 | row hl hv hn hcap ha ho =>
  rename_i cap p ad
  obtain ⟨hb, h1, h2⟩ := bounds_run (P := P) (κ := κ) (w := w) hcap true rl rh eb
  have hss := shape_slice (ba := some ad) ht hs hcap hb
  refine ⟨_, hss, ?_⟩
  split
  ·rename_i hcl
   exact .row hl hv (by omega) (by omega) (fun _ => .inl (by omega)) fun _ _ _ => .inl (by omega)
  ·rename_i hcl
   simp only [Option.map_some]
   have hsp := hsz p hl
   refine .row hl hv (by omega) (by omega) (fun ev => ?_) fun e he ev => ?_
   ·rcases ha ev with h0 | ⟨h0, h3⟩
    ·exact .inl (by omega)
    ·refine .inr ⟨?_, by omega⟩
     rw [h0, add_off, hsp, Nat.add_mul]
     simp [Nat.add_assoc]
   ·rcases ho e he ev with h0 | ⟨h0, h3⟩
    ·exact .inl (by omega)
    ·refine .inr ⟨?_, by omega⟩
     rw [h0, add_off, (p.oldOk e he).2, hsp, Nat.add_mul]
end Go.Proofs.YtpagdhbmbnoddaaGreatDoor.Zz
namespace Go.Proofs.YtpagdhbmbnoddaaGreatDoor.Zz
variable {P : Program} {κ : Kap} {w : World}
def etT (P : Program) (t : TypeId) : ET → Prop
 | .bool => P.underlying t = some .bool
 | .ptr => ∃ e, P.underlying t = some (.pointer e)
 | .slnil => ∃ e, P.underlying t = some (.slice e)
 | .funcnil => ∃ a b c, P.underlying t = some (.func a b c)
 | .iface => ∃ ms, P.underlying t = some (.interface ms)
 | .array n .prim => ∃ e k i, P.underlying t = some (.array n e) ∧ P.underlying e = some (.int k) ∧ P.eqGuardType P.depth t = false ∧ P.cellsOf e = 1 ∧ P.info? e = some i
 | _ => False
theorem etOf_T {t : TypeId} {e : ET} (h : etOf P t = some e) : etT P t e := by
 unfold etOf at h
 split at h
 case h_6 =>
  rename_i n e he
  split at h
  ·rename_i k hk
   split at h
   ·rename_i hc
    cases h
    obtain ⟨i, hi⟩ := Option.isSome_iff_exists.1 hc.2.2
    exact ⟨e, k, i, he, hk, hc.1, hc.2.1, hi⟩
   ·cases h
  ·cases h
 all_goals (simp at h; try subst h; try simp [etT, *])
theorem equal_run {t : TypeId} {u v : Value} {b : Bool} (h : ∀ d, (Op.equalIn (d + 1) t u v).run P w = .ok b w) (hb : ∀ op, binOp op t u v = match op with | .eql => (do pure (.bool (← Op.equal t u v))) | .neq => (do pure (.bool (!(← Op.equal t u v)))) | op => binOp op t u v)
  (neg : Bool) (p q : Operand) (hg : eqGuard (if neg then .neq else .eql) t p q u v = pure ()) :
  (do eqGuard (if neg then .neq else .eql) t p q u v; binOp (if neg then .neq else .eql) t u v).run P w = .ok (.bool (if neg then !b else b)) w := by
 have h' : (Op.equal t u v).run P w = .ok b w := h 9999
 rw [hg, pure_bind, hb]
 cases neg <;> simp [h']
theorem eqItems_run {e : TypeId} {k : IntKind} {c1 c2 : Array Value} (he : P.underlying e = some (.int k)) : ∀ (as bs : List D) (off : Nat) (is : List Nat) (b : Bool), is = (List.range as.length).map (· + off) → as.length = bs.length → off + as.length = c1.size → off + as.length = c2.size →
  (∀ (i : Nat) d, as[i]? = some d → Rep κ w (c1.getD (i + off) (.tuple #[])) d) → (∀ (i : Nat) d, bs[i]? = some d → Rep κ w (c2.getD (i + off) (.tuple #[])) d) → eqInts as bs = some b →
  ∀ d, (Op.eqItems (d + 1) e 1 c1 c2 is).run P w = .ok b w
 | [], [], off, is, b, hi, _, _, _, _, _, h => fun d => by
  cases h
  simp at hi
  subst hi
  simp [Op.eqItems]
 | x :: as, y :: bs, off, is, b, hi, hl, l1, l2, r1, r2, h => fun d => by
  have hx := r1 0 x rfl
  have hy := r2 0 y rfl
  simp only [Nat.zero_add] at hx hy
  have h0 : off < c1.size := by simp at l1; omega
  have h0' : off < c2.size := by simp at l2; omega
  have his : is = off :: (List.range as.length).map (· + (off + 1)) := by
   rw [hi, List.length_cons, List.range_succ_eq_map, List.map_cons, List.map_map]
   congr 1
   ·omega
   ·apply List.map_congr_left; intro i _; simp; omega
  rw [his]
  cases x with
  | int k1 a =>
   cases y with
   | int k2 c =>
    simp only [eqInts] at h
    split at h
    ·rename_i hk
     subst hk
     have ga : c1[off]? = some (.int k1 a) := by
      rw [Array.getElem?_eq_getElem h0]
      have : c1.getD off (.tuple #[]) = c1[off] := by simp [Array.getD_eq_getD_getElem?, h0]
      rw [this] at hx
      generalize c1[off] = v at hx
      cases hx; rfl
     have gc : c2[off]? = some (.int k1 c) := by
      rw [Array.getElem?_eq_getElem h0']
      have : c2.getD off (.tuple #[]) = c2[off] := by simp [Array.getD_eq_getD_getElem?, h0']
      rw [this] at hy
      generalize c2[off] = v at hy
      cases hy; rfl
     have hp : P.plainKey e = true := by simp [Program.plainKey, he]
     have p1 := run_part_plain (P := P) w hp ga
     have p2 := run_part_plain (P := P) w hp gc
     simp only [Op.eqItems, Nat.mul_one, Sem.run_bind, p1, p2, Result.andThen_ok, run_equalIn_int w d e k1 k a c he]
     split at h
     ·rename_i hac
      rw [hac]
      simp only [Bool.not_true, Bool.false_eq_true, if_false]
      exact eqItems_run he as bs (off + 1) _ b rfl (by simpa using hl) (by simp at l1; omega) (by simp at l2; omega)
       (fun i d hd => by have := r1 (i + 1) d hd; rwa [show i + 1 + off = i + (off + 1) by omega] at this)
       (fun i d hd => by have := r2 (i + 1) d hd; rwa [show i + 1 + off = i + (off + 1) by omega] at this) h d
     ·rename_i hac
      cases h
      have : (a == c) = false := by simpa using hac
      rw [this]
      simp
    ·cases h
   | _ => cases h
  | _ => cases h
 | [], _ :: _, _, _, _, _, hl, _, _, _, _, _ => by simp at hl
 | _ :: _, [], _, _, _, _, hl, _, _, _, _, _ => by simp at hl
theorem eqArr_sound {n : Nat} {t : TypeId} (ht : etT P t (.array n .prim)) {c1 c2 : Array Value} {a b : List D} {r : Bool} (hl : c1.size = n ∧ a.length = n) (hl2 : c2.size = n ∧ b.length = n) (r1 : ∀ (i : Nat) d, a[i]? = some d → Rep κ w (c1.getD i (.tuple #[])) d) (r2 : ∀ (i : Nat) d, b[i]? = some d → Rep κ w (c2.getD i (.tuple #[])) d)
  (e : eqInts a b = some r) (neg : Bool) (p q : Operand) :
  (do eqGuard (if neg then .neq else .eql) t p q (.agg c1) (.agg c2); binOp (if neg then .neq else .eql) t (.agg c1) (.agg c2)).run P w = .ok (.bool (if neg then !r else r)) w := by
 obtain ⟨el, k, i, h1, h2, h3, h4, h5⟩ := ht
 have hE : (Op.equalIn 10000 t (.agg c1) (.agg c2)).run P w = .ok r w := by
  rw [run_equalIn_array w 9999 c1 c2 h1 h5, h4]
  exact eqItems_run h2 a b 0 _ r (by rw [hl.2]; simp) (by omega) (by omega) (by omega) (fun i d hd => r1 i d hd) (fun i d hd => r2 i d hd) e 9998
 cases neg <;> simp only [Bool.false_eq_true, if_false, if_true, Sem.run_bind, run_eqGuard_agg w _ t p q c1 c2 h3, Result.andThen_ok, run_eql_struct, run_neq_struct, hE]
theorem eqEv_sound {et : ET} {t : TypeId} (ht : etT P t et) {u v : Value} {x y : D} {b : Bool} (hu : Rep κ w u x) (hv : Rep κ w v y) (e : eqEv et x y = some b) (neg : Bool) (p q : Operand)
  (hc : et = .iface → isConstO p = true ∨ isConstO q = true) :
  (do eqGuard (if neg then .neq else .eql) t p q u v; binOp (if neg then .neq else .eql) t u v).run P w = .ok (.bool (if neg then !b else b)) w := by
 unfold eqEv at e
 split at e
 case h_11 =>
  split at e
  ·rename_i hl
   cases hu with
   | agg s1 r1 =>
    cases hv with
    | agg s2 r2 => exact eqArr_sound ht (by omega) (by omega) r1 r2 e neg p q
  ·cases e
 all_goals cases e
 ·-- bools
  cases hu; cases hv
  refine equal_run ?_ (fun op => by cases op <;> rfl) neg p q (eqGuard_prim ⟨fun _ => by simp, by simp⟩)
  simp only [etT] at ht
  intro d
  simp [Op.equalIn, run_underlying ht]
 ·cases hu; cases hv
  obtain ⟨el, ht⟩ := ht
  refine equal_run ?_ (fun op => by cases op <;> rfl) neg p q (eqGuard_prim ⟨fun _ => by simp, by simp⟩)
  intro d
  simp [Op.equalIn, run_underlying ht]
 ·cases hu; cases hv
  obtain ⟨el, ht⟩ := ht
  refine equal_run ?_ (fun op => by cases op <;> rfl) neg p q (eqGuard_prim ⟨fun _ => by simp, by simp⟩)
  intro d
  simp [Op.equalIn, run_underlying ht]
 ·cases hu; cases hv
  obtain ⟨el, ht⟩ := ht
  refine equal_run ?_ (fun op => by cases op <;> rfl) neg p q (eqGuard_prim ⟨fun _ => by simp, by simp⟩)
  intro d
  simp [Op.equalIn, run_underlying ht]
 ·cases hu; cases hv
  obtain ⟨el, ht⟩ := ht
  refine equal_run ?_ (fun op => by cases op <;> rfl) neg p q (eqGuard_prim ⟨fun _ => by simp, by simp⟩)
  intro d
  simp [Op.equalIn, run_underlying ht]
 ·cases hu; cases hv
  obtain ⟨a1, a2, a3, ht⟩ := ht
  refine equal_run ?_ (fun op => by cases op <;> rfl) neg p q (eqGuard_prim ⟨fun _ => by simp, by simp⟩)
  intro d
  simp [Op.equalIn, run_underlying ht]
 ·cases hu; cases hv
  obtain ⟨a1, a2, a3, ht⟩ := ht
  refine equal_run ?_ (fun op => by cases op <;> rfl) neg p q (eqGuard_prim ⟨fun _ => by simp, by simp⟩)
  intro d
  simp [Op.equalIn, run_underlying ht]
 ·cases hu; cases hv
  obtain ⟨ms, ht⟩ := ht
  have hg : eqGuard (if neg then .neq else .eql) t p q .nilIface .nilIface = pure () := by
   rcases hc rfl with h | h
   ·cases p <;> simp [isConstO] at h
    cases neg <;> simp [eqGuard_nil_constL]
   ·cases q <;> simp [isConstO] at h
    cases neg <;> simp [eqGuard_nil_constR]
  refine equal_run (b := true) (fun d => ?_) (fun op => by cases op <;> rfl) neg p q hg
  simp [Op.equalIn, run_underlying ht]
 ·cases hu; cases hv
  obtain ⟨ms, ht⟩ := ht
  refine equal_run ?_ (fun op => by cases op <;> rfl) neg p q (eqGuard_prim ⟨fun _ => by simp, by simp⟩)
  intro d
  simp [Op.equalIn, run_underlying ht]
 ·cases hu; cases hv
  obtain ⟨ms, ht⟩ := ht
  refine equal_run (b := false) (fun d => ?_) (fun op => by cases op <;> rfl) neg p q (by cases neg <;> simp [eqGuard])
  simp [Op.equalIn, run_underlying ht]
theorem setAt_length (cs : List D) (off : Nat) (ds : List D) : (setAt cs off ds).length = cs.length := by
 induction ds generalizing cs off with
 | nil => rfl
 | cons d ds ih => simp [setAt, ih]
theorem setAt_get (cs : List D) (off : Nat) (ds : List D) (i : Nat) : (setAt cs off ds)[i]? = if off ≤ i ∧ i < off + ds.length ∧ i < cs.length then ds[i - off]? else cs[i]? := by
 induction ds generalizing cs off with
 | nil =>
  simp only [setAt, List.length_nil]
  split
  ·omega
  ·rfl
 | cons d ds ih =>
  rw [setAt, ih]
  simp only [List.length_set, List.length_cons]
  by_cases h0 : i = off
  ·subst h0
   by_cases hl : i < cs.length
   ·have c1 : ¬ (i + 1 ≤ i ∧ i < i + 1 + ds.length ∧ i < cs.length) := by omega
    have c2 : i ≤ i ∧ i < i + (ds.length + 1) ∧ i < cs.length := by omega
    rw [if_neg c1, if_pos c2]
    simp [hl]
   ·have c1 : ¬ (i + 1 ≤ i ∧ i < i + 1 + ds.length ∧ i < cs.length) := by omega
    have c2 : ¬ (i ≤ i ∧ i < i + (ds.length + 1) ∧ i < cs.length) := by omega
    rw [if_neg c1, if_neg c2]
    simp [hl]
  ·have e1 : (cs.set off d)[i]? = cs[i]? := List.getElem?_set_ne (fun h => h0 h.symm)
   rw [e1]
   by_cases c : off + 1 ≤ i ∧ i < off + 1 + ds.length ∧ i < cs.length
   ·have c2 : off ≤ i ∧ i < off + (ds.length + 1) ∧ i < cs.length := by omega
    rw [if_pos c, if_pos c2]
    rw [show i - off = (i - (off + 1)) + 1 by omega]
    simp
   ·have c2 : ¬ (off ≤ i ∧ i < off + (ds.length + 1) ∧ i < cs.length) := by omega
    rw [if_neg c, if_neg c2]
theorem zipIdx_fold (vs : List Value) : ∀ (cs : Array Value) (off k : Nat), ((vs.zipIdx k).foldl (fun cs (c, j) => cs.setIfInBounds (off + j) c) cs).toList =
  (List.range cs.size).map fun i => if off + k ≤ i ∧ i < off + k + vs.length then vs.getD (i - (off + k)) undef else cs.getD i undef := by
 induction vs with
 | nil =>
  intro cs off k
  simp only [List.zipIdx_nil, List.foldl_nil, List.length_nil]
  apply List.ext_getElem
  ·simp
  ·intro i h1 h2
   simp at h1
   have : ¬ (off + k ≤ i ∧ i < off + k + 0) := by omega
   simp [h1]
   omega
 | cons v vs ih =>
  intro cs off k
  simp only [List.zipIdx_cons, List.foldl_cons]
  rw [ih]
  simp only [Array.size_setIfInBounds, List.length_cons]
  apply List.map_congr_left
  intro i hi
  simp at hi
  by_cases h0 : i = off + k
  ·subst h0
   have c1 : ¬ (off + (k + 1) ≤ off + k ∧ off + k < off + (k + 1) + vs.length) := by omega
   have c2 : off + k ≤ off + k ∧ off + k < off + k + (vs.length + 1) := by omega
   rw [if_neg c1, if_pos c2]
   simp [hi]
  ·have e1 : (cs.setIfInBounds (off + k) v).getD i undef = cs.getD i undef := by
    simp [Array.getD_eq_getD_getElem?, Array.getElem?_setIfInBounds_ne (fun h => h0 h.symm)]
   rw [e1]
   by_cases c : off + (k + 1) ≤ i ∧ i < off + (k + 1) + vs.length
   ·have c2 : off + k ≤ i ∧ i < off + k + (vs.length + 1) := by omega
    rw [if_pos c, if_pos c2, show i - (off + k) = (i - (off + (k + 1))) + 1 by omega]
    simp
   ·have c2 : ¬ (off + k ≤ i ∧ i < off + k + (vs.length + 1)) := by omega
    rw [if_neg c, if_neg c2]
theorem rep_set {cs : Array Value} {ds es : List D} {vs : Array Value} (h : RepL κ w cs.toList ds) (hv : RepL κ w vs.toList es) (off : Nat) :
  RepL κ w (vs.zipIdx.foldl (fun cs (c, j) => cs.setIfInBounds (off + j) c) cs).toList (setAt ds off es) := by
 have hz : vs.zipIdx.foldl (fun cs (c, j) => cs.setIfInBounds (off + j) c) cs = (vs.toList.zipIdx 0).foldl (fun cs (c, j) => cs.setIfInBounds (off + j) c) cs := by
  rw [← Array.foldl_toList]
  simp
 have hlen := h.length
 have hlen2 := hv.length
 simp at hlen hlen2
 rw [hz, zipIdx_fold]
 refine RepL.of_get (by simp [setAt_length, hlen]) fun i d hd => ?_
 rw [setAt_get] at hd
 have hi : i < ds.length := by
  split at hd
  ·omega
  ·exact (List.getElem?_eq_some_iff.1 hd).1
 have hi' : i < cs.size := by omega
 refine ⟨_, by simp [hi']; rfl, ?_⟩
 by_cases c : off ≤ i ∧ i < off + es.length ∧ i < ds.length
 ·rw [if_pos c] at hd
  obtain ⟨v, e1, r⟩ := hv.get _ _ hd
  have e1' : vs[i - off]? = some v := by simpa using e1
  have c' : off ≤ i ∧ i < off + vs.size := by omega
  simp [c', e1', r]
 ·rw [if_neg c] at hd
  obtain ⟨v, e1, r⟩ := h.get _ _ hd
  have e1' : cs[i] = v := by simpa [hi'] using e1
  have c' : ¬ (off ≤ i ∧ i < off + vs.size) := by omega
  simp [c', hi', e1', r]
end Go.Proofs.YtpagdhbmbnoddaaGreatDoor.Zz
namespace Go.Proofs.YtpagdhbmbnoddaaGreatDoor.Zz
variable {P : Program} {κ : Kap} {w : World} {σ : Fr} {n : Nat} {a : Act}
theorem opdO_rep [Globs] (hp : Pre κ w σ n a) {x : Option Operand} {y : Option Opd} (e : opdO x = some y) : RepO κ w (x.map a.eval) (y.map σ.ev) := by
  cases x with
  | none => simp [opdO] at e; subst e; exact .none
  | some x =>
    simp only [opdO, Option.map_eq_some_iff] at e
    obtain ⟨z, e1, rfl⟩ := e
    exact .some (opd_rep hp e1)
theorem fill_sound {place : Nat → Option (Nat × Nat)} {cells : Array Value} {zs : List D} (hz : RepL κ w cells.toList zs) :
    ∀ (ps : List (Nat × Value)) (qs : List (Nat × Nat × D)), ps.length = qs.length →
      (∀ (i : Nat) (j : Nat) (v : Value), ps[i]? = some (j, v) → ∃ (off sz : Nat) (d : D), qs[i]? = some (off, sz, d) ∧ place j = some (off, sz) ∧ Rep κ w v d) →
      ∀ ds, buildD zs qs = some ds → ∃ cs, Instr.fill place cells ps = some cs ∧ RepL κ w cs.toList ds := by
  intro ps
  induction ps generalizing cells zs with
  | nil =>
    intro qs hl _ ds e
    cases qs with
    | nil => simp [buildD] at e; subst e; exact ⟨cells, by simp [Instr.fill], hz⟩
    | cons _ _ => simp at hl
  | cons p ps ih =>
    intro qs hl hh ds e
    cases qs with
    | nil => simp at hl
    | cons q qs =>
      obtain ⟨j, v⟩ := p
      obtain ⟨off, sz, d, e1, e2, r⟩ := hh 0 j v (by simp)
      simp at e1
      subst e1
      simp only [buildD] at e
      split at e
      · rename_i hc
        obtain ⟨c1, c2, c3⟩ := hc
        have hnu : d ≠ .undef := by
          intro h; subst h; simp [cellsD, cellOk] at c3
        have rc := rep_cells r hnu
        have l1 := rc.length
        have l2 := hz.length
        simp at l1 l2
        obtain ⟨cs, f1, f2⟩ := ih (rep_set hz rc off) qs (by simpa using hl) (fun i j v h => by
          have := hh (i + 1) j v (by simpa using h)
          simpa using this) ds e
        refine ⟨cs, ?_, f2⟩
        rw [Instr.fill, e2]
        simp only
        rw [if_neg (by simp; omega)]
        exact f1
      · cases e
theorem partsOf_spec [Globs] {fs : Array Field} (hp : Pre κ w σ n a) : ∀ (ps : List (Nat × Operand)) (qs : List (Nat × Nat × Opd)), partsOf P fs ps = some qs →
    ps.length = qs.length ∧ ∀ (i : Nat) (j : Nat) (x : Operand), ps[i]? = some (j, x) → ∃ f y m, fs[j]? = some f ∧ sizeOfT P f.type = some m ∧ qs[i]? = some (f.offset, m, y) ∧ Rep κ w (a.eval x) (σ.ev y)
  | [], qs, e => by simp [partsOf] at e; subst e; exact ⟨rfl, fun i j x h => by simp at h⟩
  | (j0, x0) :: ps, qs, e => by
    simp only [partsOf] at e
    split at e
    · rename_i f y qs' e1 e2 e3
      simp only [Option.map_eq_some_iff] at e
      obtain ⟨m, e4, rfl⟩ := e
      obtain ⟨h1, h2⟩ := partsOf_spec hp ps qs' e3
      refine ⟨by simp [h1], fun i j x h => ?_⟩
      cases i with
      | zero =>
        simp at h
        obtain ⟨rfl, rfl⟩ := h
        exact ⟨f, y, m, e1, e4, by simp, opd_rep hp e2⟩
      | succ i => simpa using h2 i j x (by simpa using h)
    · cases e
theorem partsOfA_spec [Globs] {sz : Nat} (hp : Pre κ w σ n a) : ∀ (ps : List (Nat × Operand)) (qs : List (Nat × Nat × Opd)), partsOfA sz ps = some qs →
    ps.length = qs.length ∧ ∀ (i : Nat) (j : Nat) (x : Operand), ps[i]? = some (j, x) → ∃ y, qs[i]? = some (j * sz, sz, y) ∧ Rep κ w (a.eval x) (σ.ev y)
  | [], qs, e => by simp [partsOfA] at e; subst e; exact ⟨rfl, fun i j x h => by simp at h⟩
  | (j0, x0) :: ps, qs, e => by
    simp only [partsOfA] at e
    split at e
    · rename_i y qs' e2 e3
      cases e
      obtain ⟨h1, h2⟩ := partsOfA_spec hp ps qs' e3
      refine ⟨by simp [h1], fun i j x h => ?_⟩
      cases i with
      | zero =>
        simp at h
        obtain ⟨rfl, rfl⟩ := h
        exact ⟨y, by simp, opd_rep hp e2⟩
      | succ i => simpa using h2 i j x (by simpa using h)
    · cases e
theorem partsOfS_spec [Globs] (hp : Pre κ w σ n a) : ∀ (ps : List (Nat × Operand)) (qs : List (Nat × Opd)), partsOfS ps = some qs →
    ps.length = qs.length ∧ ∀ (i : Nat) (j : Nat) (x : Operand), ps[i]? = some (j, x) → ∃ y, qs[i]? = some (j, y) ∧ Rep κ w (a.eval x) (σ.ev y)
  | [], qs, e => by simp [partsOfS] at e; subst e; exact ⟨rfl, fun i j x h => by simp at h⟩
  | (j0, x0) :: ps, qs, e => by
    simp only [partsOfS] at e
    split at e
    · rename_i y qs' e2 e3
      cases e
      obtain ⟨h1, h2⟩ := partsOfS_spec hp ps qs' e3
      refine ⟨by simp [h1], fun i j x h => ?_⟩
      cases i with
      | zero =>
        simp at h
        obtain ⟨rfl, rfl⟩ := h
        exact ⟨y, by simp, opd_rep hp e2⟩
      | succ i => simpa using h2 i j x (by simpa using h)
    · cases e
theorem zero_cells {t : TypeId} {z : D} (e : zeroOfT P t = some z) (κ : Kap) (w : World) : ∃ v, (zeroValue t).run P w = .ok v w ∧ RepL κ w v.cells.toList (cellsD z) ∧ ∃ i, P.info? t = some i ∧ i.zero = some v := by
  obtain ⟨v, h1, h2, i, h3, h4⟩ := run_zeroValue e κ w
  refine ⟨v, h1, ?_, i, h3, h4⟩
  have e' := e
  unfold zeroOfT at e'
  simp only [h3, Option.bind_some, h4] at e'
  by_cases hu : z = .undef
  · exfalso
    subst hu
    unfold absV at e'
    split at e'
    · rename_i cs0
      cases hl : absL cs0.toList <;> simp [hl] at e'
    · unfold absC at e'
      split at e' <;> first | (simp at e'; done) | (split at e' <;> simp at e')
  · exact rep_cells h2 hu
theorem run_mapM_places {fs : Array Field} (hs : ∀ f ∈ fs.toList, ∃ m, sizeOfT P f.type = some m) (w : World) :
    ∃ pl : Array (Nat × Nat), (fs.mapM fun (f : Field) => (do pure (f.offset, ← sizeOf f.type) : Sem (Nat × Nat))).run P w = .ok pl w ∧ ∀ (j : Nat) (f : Field) (m : Nat), fs[j]? = some f → sizeOfT P f.type = some m → pl[j]? = some (f.offset, m) := by
  have key : ∀ l : List Field, (∀ f ∈ l, ∃ m, sizeOfT P f.type = some m) → ∃ pl : List (Nat × Nat), (l.mapM fun (f : Field) => (do pure (f.offset, ← sizeOf f.type) : Sem (Nat × Nat))).run P w = .ok pl w ∧ ∀ (j : Nat) (f : Field) (m : Nat), l[j]? = some f → sizeOfT P f.type = some m → pl[j]? = some (f.offset, m) := by
    intro l
    induction l with
    | nil => intro _; exact ⟨[], by simp, fun j f m h => by simp at h⟩
    | cons f l ih =>
      intro h
      obtain ⟨m, hm⟩ := h f (by simp)
      obtain ⟨pl, h1, h2⟩ := ih fun g hg => h g (by simp [hg])
      refine ⟨(f.offset, m) :: pl, ?_, fun j g k hj hk => ?_⟩
      · rw [List.mapM_cons]; simp only [Sem.run_bind, run_sizeOf hm, Result.andThen, Sem.run_pure, h1]
      · cases j with
        | zero => simp at hj; subst hj; rw [hm] at hk; cases hk; simp
        | succ j => simpa using h2 j g k (by simpa using hj) hk
  obtain ⟨pl, h1, h2⟩ := key fs.toList hs
  refine ⟨pl.toArray, ?_, fun j f m hj hk => by simpa using h2 j f m (by simpa using hj) hk⟩
  rw [Array.mapM_eq_mapM_toList]
  simp only [Sem.run_map, h1, Result.andThen]
theorem getFields {fs : Array Field} {P : Program} (h : fs.toList.all (fun f => (sizeOfT P f.type).isSome) = true) : ∀ f ∈ fs.toList, ∃ m, sizeOfT P f.type = some m := by
  intro f hf
  have := List.all_eq_true.1 h f hf
  exact Option.isSome_iff_exists.1 this
theorem arr_get {cs : Array Value} {ds : List D} (h : RepL κ w cs.toList ds) (i : Nat) (d : D) (e : ds[i]? = some d) : ∃ v, cs[i]? = some v ∧ Rep κ w v d := by
  obtain ⟨v, e1, r⟩ := h.get i d e
  exact ⟨v, by simpa using e1, r⟩
theorem fieldPlace_run {f : Field} {m : Nat} (hm : sizeOfT P f.type = some m) (h0 : m ≠ 0) (ad : Addr) (w : World) : (fieldPlace ad f).run P w = .ok (ad.add f.offset) w := by
  simp [fieldPlace, run_sizeOf hm, h0]
theorem opds_length [Globs] {l : List Operand} {ys : List Opd} (e : opds l = some ys) : l.length = ys.length := by
  induction l generalizing ys with
  | nil => simp [opds] at e; subst e; rfl
  | cons x l ih =>
    simp only [opds, List.mapM_cons, Option.bind_eq_bind, Option.bind_eq_some_iff] at e
    obtain ⟨y, e1, ys', e2, e3⟩ := e
    cases e3
    simp [ih e2]
theorem opds_two [Globs] (hp : Pre κ w σ n a) {arr : Array Operand} {x y : Opd} (e : opds arr.toList = some [x, y]) :
    ∃ v u, arr.map a.eval = #[v, u] ∧ Rep κ w v (σ.ev x) ∧ Rep κ w u (σ.ev y) := by
  have hl := opds_length e
  have r := opds_rep hp e
  match h : arr.toList, hl with
  | [p, q], _ =>
    rw [h] at r
    cases r with
    | cons r1 t => cases t with
      | cons r2 t => exact ⟨_, _, by apply Array.ext'; simp [h], r1, r2⟩
theorem opds_one [Globs] (hp : Pre κ w σ n a) {arr : Array Operand} {x : Opd} (e : opds arr.toList = some [x]) :
    ∃ v, arr.map a.eval = #[v] ∧ Rep κ w v (σ.ev x) := by
  have hl := opds_length e
  have r := opds_rep hp e
  match h : arr.toList, hl with
  | [p], _ =>
    rw [h] at r
    cases r with
    | cons r1 t => exact ⟨_, by apply Array.ext'; simp [h], r1⟩
theorem pure_sound [Globs] {r q : Bool} {o : Oper} {i : Ins Opd} (hc : compI P r q o = some i) (hp : Pre κ w σ n a) {d : D} (he : pureEv (i.map σ.ev) = some d) : Val P κ w (execOp a.eval o) d := by
  unfold compI at hc
  unfold execOp
  split at hc
  · -- move
    rename_i x hop
    simp only [Option.map_eq_some_iff] at hc
    obtain ⟨y, e1, rfl⟩ := hc
    simp only [Ins.map, pureEv, Option.some.injEq] at he
    subst he
    exact ⟨a.eval x, by simp [hop], opd_rep hp e1⟩
  · rename_i x hop
    simp only [Option.map_eq_some_iff] at hc
    obtain ⟨y, e1, rfl⟩ := hc
    simp only [Ins.map, pureEv, Option.some.injEq] at he
    subst he
    exact ⟨a.eval x, by simp [hop], opd_rep hp e1⟩
  · -- pick
    split at hc
    · cases hc; simp [Ins.map, pureEv] at he
    · cases hc
  · simp only [Option.map_eq_some_iff] at hc; obtain ⟨y, e1, rfl⟩ := hc; simp [Ins.map, pureEv] at he
  · simp only [Option.map_eq_some_iff] at hc; obtain ⟨y, e1, rfl⟩ := hc; simp [Ins.map, pureEv] at he
  · -- build
    rename_i t ps hop
    split at hc
    · rename_i fs z ht hz
      split at hc
      · rename_i hall
        simp only [Option.map_eq_some_iff] at hc
        obtain ⟨qs, e1, rfl⟩ := hc
        simp only [Ins.map, pureEv, Option.map_eq_some_iff] at he
        obtain ⟨ds, e2, rfl⟩ := he
        obtain ⟨zv, z1, z2, _⟩ := zero_cells hz κ w
        obtain ⟨pl, p1, p2⟩ := run_mapM_places (getFields hall) w
        obtain ⟨h1, h2⟩ := partsOf_spec hp _ _ e1
        obtain ⟨cs, f1, f2⟩ := fill_sound (place := (pl[·]?)) z2 (ps.toList.map fun p => (p.1, a.eval p.2)) (qs.map fun p => (p.1, p.2.1, σ.ev p.2.2)) (by simpa using h1) (fun i j v h => by
          simp only [List.getElem?_map, Option.map_eq_some_iff] at h
          obtain ⟨⟨j', x⟩, h3, h4⟩ := h
          cases h4
          obtain ⟨f, y, m, g1, g2, g3, g4⟩ := h2 i _ x h3
          exact ⟨f.offset, m, σ.ev y, by simp [g3], p2 _ f m g1 g2, g4⟩) ds e2
        refine ⟨.agg cs, ?_, f2.agg⟩
        simp only [hop]
        have hps : (Array.map (fun (x : Nat × Operand) => (x.1, a.eval x.2)) ps).toList = ps.toList.map fun p => (p.1, a.eval p.2) := by simp
        simp only [Sem.run_bind, Instr.build, z1, Result.andThen, run_underlying ht, p1, hps, f1, Sem.run_pure]
      · cases hc
    · rename_i ln el z ht hz
      split at hc
      · rename_i sz hsz
        simp only [Option.map_eq_some_iff] at hc
        obtain ⟨qs, e1, rfl⟩ := hc
        simp only [Ins.map, pureEv, Option.map_eq_some_iff] at he
        obtain ⟨ds, e2, rfl⟩ := he
        obtain ⟨zv, z1, z2, _⟩ := zero_cells hz κ w
        obtain ⟨h1, h2⟩ := partsOfA_spec hp _ _ e1
        obtain ⟨cs, f1, f2⟩ := fill_sound (place := fun i => some (i * sz, sz)) z2 (ps.toList.map fun p => (p.1, a.eval p.2)) (qs.map fun p => (p.1, p.2.1, σ.ev p.2.2)) (by simpa using h1) (fun i j v h => by
          simp only [List.getElem?_map, Option.map_eq_some_iff] at h
          obtain ⟨⟨j', x⟩, h3, h4⟩ := h
          cases h4
          obtain ⟨y, g3, g4⟩ := h2 i _ x h3
          exact ⟨_, sz, σ.ev y, by simp [g3], rfl, g4⟩) ds e2
        refine ⟨.agg cs, ?_, f2.agg⟩
        simp only [hop]
        have hps : (Array.map (fun (x : Nat × Operand) => (x.1, a.eval x.2)) ps).toList = ps.toList.map fun p => (p.1, a.eval p.2) := by simp
        simp only [Sem.run_bind, Instr.build, z1, Result.andThen, run_underlying ht, run_sizeOf hsz, hps, f1, Sem.run_pure]
      · cases hc
    · cases hc
  · -- buildSlice
    (repeat' split at hc) <;> first | (cases hc; done) | (simp only [Option.map_eq_some_iff] at hc; obtain ⟨y, e1, rfl⟩ := hc; simp [Ins.map, pureEv] at he)
  · (repeat' split at hc) <;> first | (cases hc; done) | (cases hc; simp [Ins.map, pureEv] at he)
  · (repeat' split at hc) <;> first | (cases hc; done) | (cases hc; simp [Ins.map, pureEv] at he)
  · -- nilCheck
    rename_i x hop
    simp only [Option.map_eq_some_iff] at hc
    obtain ⟨y, e1, rfl⟩ := hc
    have r := opd_rep hp e1
    simp only [Ins.map, pureEv] at he
    simp only [hop]
    generalize a.eval x = u at r ⊢
    generalize σ.ev y = e at r he
    have r0 := r
    split at he <;> cases he <;> cases r <;> exact ⟨_, rfl, r0⟩
  · -- binOp
    rename_i op t x y yt hop
    split at hc
    · rename_i p1 p2 e1 e2
      have r1 := opd_rep hp e1
      have r2 := opd_rep hp e2
      simp only [hop]
      split at hc
      · (repeat' split at hc)
        · cases hc
          simp only [Ins.map, pureEv] at he
          obtain ⟨v, h1, h2⟩ := binEv_sound (P := P) r1 r2 he t x y
          exact Val.of h1 h2
        all_goals first
          | (cases hc; done)
          | (cases hc; simp [Ins.map, pureEv] at he; done)
          | (simp only [Option.map_eq_some_iff] at hc
             obtain ⟨et, e3, rfl⟩ := hc
             simp only [Ins.map, pureEv, Option.map_eq_some_iff] at he
             obtain ⟨b, e4, rfl⟩ := he
             refine Val.of (eqEv_sound (P := P) (etOf_T e3) r1 r2 e4 false x y (fun h => ?_)) (.bool _)
             first
               | (rename_i hcc; exact (Bool.or_eq_true _ _).mp hcc)
               | (subst h; simp_all))
      · (repeat' split at hc)
        · cases hc
          simp only [Ins.map, pureEv] at he
          obtain ⟨v, h1, h2⟩ := binEv_sound (P := P) r1 r2 he t x y
          exact Val.of h1 h2
        all_goals first
          | (cases hc; done)
          | (cases hc; simp [Ins.map, pureEv] at he; done)
          | (simp only [Option.map_eq_some_iff] at hc
             obtain ⟨et, e3, rfl⟩ := hc
             simp only [Ins.map, pureEv, Option.map_eq_some_iff] at he
             obtain ⟨b, e4, rfl⟩ := he
             refine Val.of (eqEv_sound (P := P) (etOf_T e3) r1 r2 e4 true x y (fun h => ?_)) (.bool _)
             first
               | (rename_i hcc; exact (Bool.or_eq_true _ _).mp hcc)
               | (subst h; simp_all))
      · split at hc
        · cases hc
          simp [Ins.map, pureEv] at he
        · cases hc
          simp only [Ins.map, pureEv] at he
          obtain ⟨v, h1, h2⟩ := binEv_sound (P := P) r1 r2 he t x y
          exact Val.of h1 h2
    · cases hc
  · -- unOp
    rename_i op t x hop
    simp only [Option.map_eq_some_iff] at hc
    obtain ⟨y, e1, rfl⟩ := hc
    simp only [Ins.map, pureEv] at he
    obtain ⟨v, h1, h2⟩ := unEv_sound (P := P) (opd_rep hp e1) he
    simp only [hop]
    exact Val.of h1 h2
  · -- convert
    rename_i s dt x hop
    split at hc
    · rename_i ck y e1 e2
      cases hc
      have r := opd_rep hp e2
      simp only [Ins.map, pureEv] at he
      simp only [hop]
      unfold ckOf at e1
      generalize a.eval x = u at r ⊢
      generalize σ.ev y = e at r he
      split at he
      · cases he; cases r
        rename_i k k' m
        refine Val.of (v := .int k (k.wrap m)) ?_ (.int _ _)
        split at e1 <;> (try split at e1) <;> cases e1
        rename_i h1 h2
        simp [convert, run_underlying h1, run_underlying h2, Conv.intToInt]
      · cases he; cases r
        rename_i k' m
        refine Val.of (v := .float .f64 (FloatKind.f64.nearest m)) ?_ (.float _ _)
        split at e1 <;> (try split at e1) <;> cases e1
        rename_i h1 h2
        simp [convert, run_underlying h1, run_underlying h2, Conv.intToFloat]
      · cases he; cases r
        rename_i s0 hs0
        refine Val.of (v := .string ⟨s0.toArray⟩) ?_ (.str _ hs0)
        split at e1 <;> (try split at e1) <;> cases e1
        rename_i h1 h2
        simp [convert, run_underlying h1, run_underlying h2]
      · simp only [Option.map_eq_some_iff] at he
        obtain ⟨n0, he1, rfl⟩ := he
        cases r
        rename_i k' m
        refine Val.of (v := .int k' n0) ?_ (.int _ _)
        split at e1 <;> (try split at e1) <;> cases e1
        rename_i h1 h2
        exact run_convert_float_int w s dt .f64 k' m n0 (by rw [h1]; rfl) h2 he1
      · cases he; cases r
        rename_i m
        refine Val.of (v := .float .f64 m) ?_ (.float _ _)
        split at e1 <;> (try split at e1) <;> cases e1
        rename_i h1 h2
        simp [convert, run_underlying h1, run_underlying h2, Conv.floatToFloat]
      · cases he
    · cases hc
  · -- sliceToArrayPointer
    rename_i t x hop
    split at hc
    · rename_i n el y h1 e1
      cases hc
      have r := opd_rep hp e1
      simp only [Ins.map, pureEv] at he
      simp only [hop]
      generalize a.eval x = u at r ⊢
      generalize σ.ev y = e at r he
      split at he
      · split at he
        · rename_i hn
          cases he
          cases r with
          | csl hl hv hln hcap ha =>
            rename_i cap0 p0 a0
            refine Val.of (v := .pointer (some a0)) ?_ (.ptr hl hv fun e => ?_)
            · simp only [Instr.arrayAt, Sem.run_bind, run_underlying h1, Result.andThen]
              rw [if_neg (by omega)]; rfl
            · rcases ha e with h0 | h0
              · omega
              · exact h0
        · cases he
      · cases he
    · cases hc
  · -- makeInterface
    rename_i t x hop
    split at hc
    · cases hc
    · rename_i hni ht
      simp only [Option.map_eq_some_iff] at hc
      obtain ⟨y, e1, rfl⟩ := hc
      simp only [Ins.map, pureEv, Option.some.injEq] at he
      subst he
      simp only [hop]
      rename_i td
      refine Val.of (v := .iface t (a.eval x)) ?_ (.iface (opd_rep hp e1))
      simp only [Instr.makeInterface, Sem.run_bind, run_underlying ht, Result.andThen]
      rfl
    · cases hc
  · -- makeFunc
    rename_i fn x y hop
    split at hc
    · rename_i xs ys e1 e2
      cases hc
      simp only [Ins.map, pureEv, Option.some.injEq] at he
      subst he
      simp only [hop]
      have r1 := opds_rep hp e1
      have r2 := opds_rep hp e2
      refine Val.of (v := .func fn (x.map a.eval) (y.map a.eval)) rfl ?_
      refine .func (by have := r1.length; simpa using this) (by have := r2.length; simpa using this) (fun i d hd => ?_) (fun i d hd => ?_)
      · obtain ⟨v, g1, g2⟩ := r1.get i d hd
        have : (x.map a.eval)[i]? = some v := by simpa using g1
        simpa [Array.getD_eq_getD_getElem?, this] using g2
      · obtain ⟨v, g1, g2⟩ := r2.get i d hd
        have : (y.map a.eval)[i]? = some v := by simpa using g1
        simpa [Array.getD_eq_getD_getElem?, this] using g2
    · cases hc
  · -- slice
    rename_i t x lo hi mx hop
    split at hc
    · rename_i x' lo' hi' e1 e2 e3 e4
      have hmx : mx = none := by
        cases mx with
        | none => rfl
        | some z => simp only [opdO, Option.map_eq_some_iff, reduceCtorEq, and_false, exists_false] at e4
      subst hmx
      have rl := opdO_rep hp e2
      have rh := opdO_rep hp e3
      have r := opd_rep hp e1
      simp only [hop]
      split at hc
      · rename_i ht
        cases hc
        simp only [Ins.map, pureEv, Option.map_none] at he
        obtain ⟨v, h1, h2⟩ := sliceEv_sound (k := .str) (t := t) ht r rl rh he
        exact Val.of h1 h2
      · rename_i el ht
        simp only [Option.map_eq_some_iff] at hc
        obtain ⟨sz, hs, rfl⟩ := hc
        simp only [Ins.map, pureEv, Option.map_none] at he
        obtain ⟨v, h1, h2⟩ := sliceEv_sound (k := .sl sz) (t := t) ⟨el, ht, hs⟩ r rl rh he
        exact Val.of h1 h2
      · rename_i m el ht
        split at hc
        · rename_i hs
          cases hc
          simp only [Ins.map, pureEv, Option.map_none] at he
          obtain ⟨v, h1, h2⟩ := sliceEv_sound (k := .arr m) (t := t) ⟨el, ht, hs⟩ r rl rh he
          exact Val.of h1 h2
        · cases hc
      · cases hc
    · cases hc
  · -- fieldAddr
    rename_i s x f hop
    split at hc
    · rename_i fs y e1 e2
      split at hc
      · rename_i fd e3
        split at hc
        · rename_i m e4
          split at hc
          · rename_i h0
            cases hc
            have hs : P.underlying s = some (.struct fs) := by
              unfold fieldsOf at e1
              split at e1 <;> cases e1
              assumption
            have r := opd_rep hp e2
            simp only [Ins.map, pureEv] at he
            simp only [hop]
            have key : ∀ ad : Addr, (Instr.fieldAt s (.pointer (some ad)) f).run P w = .ok (.pointer (some (ad.add fd.offset))) w := fun ad => by
              simp [Instr.fieldAt, run_underlying hs, e3, Instr.sureAddr, fieldPlace_run e4 h0]
            generalize hu : a.eval x = u at r
            generalize σ.ev y = e at r he
            split at he
            · cases he
              cases r with
              | ptr hl hv ha => exact Val.of (key _) (.ptr hl hv fun ev => by rw [ha ev, add_off, Nat.add_assoc])
            · cases he
              cases r with
              | eptr f hb hcc hr =>
                refine Val.of (key _) ?_
                rw [add_off, Nat.add_assoc]
                exact .eptr f hb hcc hr
            · cases he
              cases r with
              | rptr hl hv ha => exact Val.of (key _) (.rptr hl hv fun ev => by rw [ha ev, add_off, Nat.add_assoc])
            · cases he
          · cases hc
        · cases hc
      · cases hc
    · cases hc
  · -- field
    rename_i s x f hop
    split at hc
    · rename_i fs y e1 e2
      split at hc
      · rename_i fd e3
        simp only [Option.map_eq_some_iff] at hc
        obtain ⟨k, e4, rfl⟩ := hc
        have hs : P.underlying s = some (.struct fs) := by
          unfold fieldsOf at e1
          split at e1 <;> cases e1
          assumption
        have r := opd_rep hp e2
        simp only [Ins.map, pureEv] at he
        simp only [hop]
        generalize hu : a.eval x = u at r
        generalize σ.ev y = e at r he
        split at he
        · cases r with
          | agg hs' hr =>
          obtain ⟨v, h1, h2⟩ := partD_sound (P := P) (RepL.of_arr hs' hr) e4 he
          exact Val.of (by simp [Instr.field, run_underlying hs, e3, asAgg, h1]) h2
        · cases he
      · cases hc
    · cases hc
  · -- indexAddr
    rename_i t x i hop
    split at hc
    · rename_i x' i' e1 e2
      have r1 := opd_rep hp e1
      have r2 := opd_rep hp e2
      simp only [hop]
      split at hc
      · rename_i m el ht
        simp only [Option.map_eq_some_iff] at hc
        obtain ⟨sz, hs, rfl⟩ := hc
        simp only [Ins.map, pureEv] at he
        generalize a.eval x = u at r1
        generalize a.eval i = v at r2
        generalize σ.ev x' = ex at r1 he
        generalize σ.ev i' = ei at r2 he
        have key : ∀ (ad : Addr) (k : IntKind) (z : Int), 0 ≤ z ∧ z < (m : Int) → (Instr.indexAt t (.pointer (some ad)) (.int k z)).run P w = .ok (.pointer (some (ad.add (z.toNat * sz)))) w := fun ad k z hz => by
          simp [Instr.indexAt, asIntOf, run_underlying ht, Instr.sureAddr, hz, run_sizeOf hs]
        split at he
        · split at he
          · rename_i hb
            cases he; cases r2
            cases r1 with
            | ptr hl hv ha => exact Val.of (key _ _ _ hb) (.ptr hl hv fun ev => by rw [ha ev, add_off, Nat.add_assoc])
          · cases he
        · split at he
          · rename_i hb
            cases he; cases r2
            cases r1 with
            | eptr f hb' hcc hr =>
              refine Val.of (key _ _ _ hb) ?_
              rw [add_off, Nat.add_assoc]
              exact .eptr f hb' hcc hr
          · cases he
        · split at he
          · rename_i hb
            cases he; cases r2
            cases r1 with
            | rptr hl hv ha => exact Val.of (key _ _ _ hb) (.rptr hl hv fun ev => by rw [ha ev, add_off, Nat.add_assoc])
          · cases he
        · cases he
      · rename_i el ht
        split at hc
        case h_2 => cases hc
        rename_i sz hs
        split at hc
        case isFalse => cases hc
        rename_i hpos
        cases hc
        simp only [Ins.map, pureEv] at he
        generalize a.eval x = u at r1
        generalize a.eval i = v at r2
        generalize σ.ev x' = ex at r1 he
        generalize σ.ev i' = ei at r2 he
        have key : ∀ (ad : Addr) (len cap : Nat) (k : IntKind) (z : Int), 0 ≤ z ∧ z < (len : Int) → (Instr.indexAt t (.slice (some ad) len cap) (.int k z)).run P w = .ok (.pointer (some (ad.add (z.toNat * sz)))) w := fun ad len cap k z hz => by
          simp [Instr.indexAt, asIntOf, run_underlying ht, Instr.sureAddr, hz, run_sizeOf hs]
        split at he
        · split at he
          · rename_i xs k0 z h0
            split at he
            · rename_i y hy
              split at he
              · rename_i hl
                cases he; cases r2
                have hlt : z.toNat < xs.length := (List.getElem?_eq_some_iff.1 hy).1
                cases r1 with
                | slnil => simp at hy
                | sl f hn hcap hsz' hcc hr =>
                  rename_i bb oo szz cap
                  have hszy : szz = sz := by rw [← hsz' y (List.mem_of_getElem? hy), hl]
                  subst hszy
                  refine Val.of (key _ _ _ _ _ ⟨h0, by omega⟩) ?_
                  rw [add_off]
                  · have h1 : 0 < y.length := by omega
                    have himm := (hcc _ y 0 y[0] hy (by simp [h1])).1
                    have := Rep.eptr (κ := κ) (w := w) (b := bb) (base := oo + z.toNat * szz) (off := 0) (cells := y) (f z.toNat) himm (fun j d hj => (hcc _ y j d hy hj).2) (fun j d hj => hr _ y j d hy hj)
                    simpa using this
              · cases he
            · cases he
          · cases he
        · split at he
          · rename_i hb
            obtain ⟨b1, b2, b3⟩ := hb
            cases he; cases r2
            cases r1 with
            | csl hl hv hn hcap ha =>
              refine Val.of (key _ _ _ _ _ ⟨b1, b2⟩) (.ptr hl hv fun ev => ?_)
              rcases ha ev with h0 | h0
              · omega
              · subst b3
                rw [h0, add_off, Nat.mul_one, Nat.add_assoc]
          · cases he
        · cases he
      · cases hc
    · cases hc
  · -- index
    rename_i t x i hop
    split at hc
    · rename_i x' i' e1 e2
      have r1 := opd_rep hp e1
      have r2 := opd_rep hp e2
      simp only [hop]
      split at hc
      · rename_i m el ht
        split at hc
        · rename_i sz k e3 e4
          cases hc
          simp only [Ins.map, pureEv] at he
          generalize a.eval x = u at r1
          generalize a.eval i = v at r2
          generalize σ.ev x' = ex at r1 he
          generalize σ.ev i' = ei at r2 he
          split at he
          · split at he
            · rename_i hb
              cases r2
              cases r1 with
              | agg hs' hr =>
              obtain ⟨v, h1, h2⟩ := partD_sound (P := P) (RepL.of_arr hs' hr) e4 he
              refine Val.of ?_ h2
              simp [Instr.index, asIntOf, run_underlying ht, hb, run_sizeOf e3, h1]
            · cases he
          · cases he
        · cases hc
      · rename_i ht
        cases hc
        simp only [Ins.map, pureEv] at he
        generalize a.eval x = u at r1
        generalize a.eval i = v at r2
        generalize σ.ev x' = ex at r1 he
        generalize σ.ev i' = ei at r2 he
        split at he
        · rename_i s0 k0 i0
          split at he
          · rename_i h0
            split at he
            · rename_i b hb
              cases he; cases r1; cases r2
              refine Val.of (v := .int .u8 (b.toNat : Int)) ?_ (.int _ _)
              have hlt : i0.toNat < s0.length := (List.getElem?_eq_some_iff.1 hb).1
              have hb' : (⟨s0.toArray⟩ : ByteArray)[i0.toNat]? = some b := by
                rw [ByteArray.getElem?_lt' _ _ (by rw [size_mk]; exact hlt)]
                have := (List.getElem?_eq_some_iff.1 hb).2
                simp [ByteArray.getElem_eq_getElem_data, this]
              simp [Instr.index, asIntOf, run_underlying ht, h0, hb']
            · cases he
          · cases he
        · cases he
      · cases hc
    · cases hc
  · -- extract
    rename_i x i hop
    simp only [Option.map_eq_some_iff] at hc
    obtain ⟨y, e1, rfl⟩ := hc
    have r := opd_rep hp e1
    simp only [Ins.map, pureEv] at he
    simp only [hop]
    generalize a.eval x = u at r
    generalize σ.ev y = e at r he
    split at he
    · cases r with
      | tuple hs hr =>
      obtain ⟨v, h1, h2⟩ := arr_get (RepL.of_arr hs hr) i d he
      exact Val.of (by simp [Instr.extract, h1]) h2
    · cases he
  · simp only [Option.map_eq_some_iff] at hc; obtain ⟨y, e1, rfl⟩ := hc; simp [Ins.map, pureEv] at he
  · -- call
    rename_i c hop
    split at hc
    · split at hc
      · (repeat' split at hc) <;> (cases hc; simp [Ins.map, pureEv] at he)
      · cases hc
    · rename_i b hcal
      have hres : ∀ vs : Array Value, c.args.map a.eval = vs → (execOp a.eval o).run P w = (builtin b c.argTypes o.type (c.args.map fun x => match x with | .const _ => true | _ => false) vs).run P w := fun vs hvs => by
        simp only [execOp, hop, Sem.run_bind, resolve, hcal, hvs]
        rfl
      unfold execOp at hres
      split at hc
      all_goals first
        | (cases hc; done)
        | ((repeat' split at hc) <;> first | (cases hc; done) | (cases hc; simp [Ins.map, pureEv] at he; done) | skip)
      all_goals
        rename_i x y e2
        cases hc
        obtain ⟨v, u, h1, r1, r2⟩ := opds_two hp e2
        have h2 := hres _ h1
        simp only [Ins.map, pureEv] at he
        generalize σ.ev x = ex at r1 he
        generalize σ.ev y = ey at r2 he
        split at he
        · cases he; cases r1; cases r2
          refine ⟨_, h2.trans ?_, .int _ _⟩
          simp [builtin, Builtin.min_, Builtin.max_, Builtin.min2, Builtin.max2]
        · cases he
    · cases hc
  · (repeat' split at hc) <;> first | (cases hc; done) | (simp only [Option.map_eq_some_iff] at hc; obtain ⟨y, e1, rfl⟩ := hc; simp [Ins.map, pureEv] at he)
  · (repeat' split at hc) <;> first | (cases hc; done) | (simp only [Option.map_eq_some_iff] at hc; obtain ⟨y, e1, rfl⟩ := hc; simp [Ins.map, pureEv] at he)
  · (repeat' split at hc) <;> first | (cases hc; done) | (simp only [Option.map_eq_some_iff] at hc; obtain ⟨y, e1, rfl⟩ := hc; simp [Ins.map, pureEv] at he)
  · (repeat' split at hc) <;> first | (cases hc; done) | (cases hc; simp [Ins.map, pureEv] at he)
  · cases hc
end Go.Proofs.YtpagdhbmbnoddaaGreatDoor.Zz
namespace Go.Proofs.YtpagdhbmbnoddaaGreatDoor.Zz
variable {P : Program} {κ : Kap} {h : AHeap} {w : World} {σ : Fr} {n : Nat} {a : Act}
theorem loadVar_sound {t : TypeId} {k : Option Nat} (hs : shapeOf P t = some k) {ad : Addr} {ds : List D} {off : Nat} {d : D} (e : partD ds off k = some d)
  (hc : ∀ j d, ds[off + j]? = some d → ∃ v, w.cell? (ad.add j) = some v ∧ Rep κ w v d) : ∃ v, (loadVar t ad).run P w = .ok v w ∧ Rep κ w v d := by
 cases k with
 | none =>
  obtain ⟨h1, _⟩ := run_isAgg_none hs w
  simp only [partD] at e
  obtain ⟨v, e1, r⟩ := hc 0 d (by simpa using e)
  have e1' : w.cell? ad = some v := by simpa [Addr.add] using e1
  exact ⟨v, by simp [loadVar, h1, e1'], r⟩
 | some m =>
  obtain ⟨h1, h2⟩ := run_isAgg_some hs w
  simp only [partD] at e
  split at e
  ·rename_i hl
   cases e
   have hex : ∀ j, ∃ v, j < m → w.cell? (ad.add j) = some v ∧ ∀ d, ds[off + j]? = some d → Rep κ w v d := fun j => by
    by_cases hj : j < m
    ·have hlt : off + j < ds.length := by omega
     obtain ⟨v, e1, r⟩ := hc j ds[off + j] (by simp [hlt])
     exact ⟨v, fun _ => ⟨e1, fun d hd => by simp [hlt] at hd; subst hd; exact r⟩⟩
    ·exact ⟨undef, fun h => absurd h hj⟩
   obtain ⟨f, hf⟩ := Classical.axiomOfChoice hex
   have hr := run_loadCells (P := P) w ad m f fun j hj => (hf j hj).1
   refine ⟨.agg ((List.range m).map f).toArray, by simp [loadVar, h1, run_sizeOf h2, hr], RepL.agg ?_⟩
   refine RepL.of_get (by simp; omega) fun i d hd => ?_
   rw [List.getElem?_take] at hd
   split at hd
   ·rename_i hi
    rw [List.getElem?_drop] at hd
    exact ⟨f i, by simp [hi], (hf i hi).2 d hd⟩
   ·cases hd
  ·cases e
theorem loadD_sound [Globs] (hi : Inv κ h w) {t : TypeId} {k : Option Nat} (hs : shapeOf P t = some k) {u : Value} {x d : D} (r : Rep κ w u x) (e : loadD h k x = some d) :
  ∃ v, (Instr.loadAt t u).run P w = .ok v w ∧ Rep κ w v d := by
 unfold loadD at e
 split at e
 ·split at e
  ·rename_i ds ho
   split at e
   ·rename_i hv1
    subst hv1
    cases r with
    | ptr hl hv ha =>
    rename_i id off _ p a
    obtain ⟨p', hp, hr⟩ := hi.obj _ _ ho
    rw [hl] at hp
    cases hp
    obtain ⟨h1, h2, h3, cs, ty, h4, h5, h6⟩ := hr
    have had := ha h1
    subst had
    obtain ⟨v, e1, e2⟩ := loadVar_sound (P := P) (κ := κ) (w := w) hs e (ad := ⟨p.blk, p.base + off, none⟩) fun j d hd => by
     obtain ⟨v, g1, g2⟩ := h6 _ d hd
     refine ⟨v, ?_, g2⟩
     rw [add_off, cell_of_row w _ _ cs ty _ h4, ← g1, h2]
     congr 1
     omega
    exact ⟨v, by simp [Instr.loadAt, Instr.sureAddr, e1], e2⟩
   ·cases e
  ·cases e
 ·cases r with
  | eptr f hb hc hr =>
  rename_i cells off b base
  obtain ⟨v, e1, e2⟩ := loadVar_sound (P := P) (κ := κ) (w := w) hs e (ad := ⟨b, base + off, none⟩) fun j d hd => ⟨f _, by rw [add_off, Nat.add_assoc]; exact hc _ d hd, hr _ d hd⟩
  exact ⟨v, by simp [Instr.loadAt, Instr.sureAddr, e1], e2⟩
 ·split at e
  ·rename_i sz ver' xs fz ho
   split at e
   ·rename_i hv1
    subst hv1
    split at e
    ·rename_i x hx
     cases r with
     | rptr hl hv ha =>
     rename_i p a
     obtain ⟨p', hp, hr⟩ := hi.obj _ _ ho
     rw [hl] at hp
     cases hp
     obtain ⟨h1, h1', h2, h3, h4, h5, h5', h6, cs, ty, h7, h8, h9⟩ := hr
     have had := ha h1
     obtain ⟨v, e1, e2⟩ := loadVar_sound (P := P) (κ := κ) (w := w) hs e (ad := a) fun j d hd => by
      obtain ⟨v, g1, g2⟩ := h9 _ x _ d hx hd
      refine ⟨v, ?_, g2⟩
      rw [had, add_off, cell_of_row w _ _ cs ty _ h7, ← g1, h2]
      congr 1
      omega
     exact ⟨v, by simp [Instr.loadAt, Instr.sureAddr, e1], e2⟩
    ·cases e
   ·cases e
  ·rename_i sz ver' xs old ho
   split at e
   ·rename_i hv1
    subst hv1
    split at e
    ·rename_i x hx
     cases r with
     | rptr hl hv ha =>
     rename_i p a
     obtain ⟨p', hp, hr⟩ := hi.obj _ _ ho
     rw [hl] at hp
     cases hp
     obtain ⟨h1, h1', h2, h3, h4, h5, h5', h6, ⟨cs, ty, h7, h8, h9⟩, _⟩ := hr
     have had := ha h1
     obtain ⟨v, e1, e2⟩ := loadVar_sound (P := P) (κ := κ) (w := w) hs e (ad := a) fun j d hd => by
      obtain ⟨v, g1, g2⟩ := h9 _ x _ d hx hd
      refine ⟨v, ?_, g2⟩
      rw [had, add_off, cell_of_row w _ _ cs ty _ h7, ← g1, h2, h4]
      congr 1
      omega
     exact ⟨v, by simp [Instr.loadAt, Instr.sureAddr, e1], e2⟩
    ·cases e
   ·cases e
  ·cases e
 ·cases e
theorem elemsOf_sound [Globs] (hi : Inv κ h w) {u : Value} {x : D} {ys : List (List D)} (r : Rep κ w u x) (e : elemsOf h x = some ys) {sz : Nat} (hsz : ∀ y ∈ ys, y.length = sz) (hpos : 0 < sz) :
  (ys = [] ∧ ∃ ba cap, u = .slice ba 0 cap ∧ (ba = none → cap = 0)) ∨ ∃ b o cap, u = .slice (some ⟨b, o, none⟩) ys.length cap ∧ ∀ i y j d, ys[i]? = some y → y[j]? = some d → ∃ v, w.cell? ⟨b, o + i * sz + j, none⟩ = some v ∧ Rep κ w v d := by
 unfold elemsOf at e
 split at e
 ·cases e; cases r; exact .inl ⟨rfl, none, 0, rfl, fun _ => rfl⟩
 ·cases e
  cases r with
  | slnil hb => exact .inl ⟨rfl, _, _, rfl, hb⟩
  | sl f hn hcap hsz' hc hr =>
   rename_i b o sz' cap
   refine .inr ⟨b, o, cap, rfl, fun i y j d hy hd => ?_⟩
   have : sz' = sz := by rw [← hsz' y (List.mem_of_getElem? hy), hsz y (List.mem_of_getElem? hy)]
   subst this
   exact ⟨f i j, (hc i y j d hy hd).2, hr i y j d hy hd⟩
 ·split at e
  ·rename_i r0 ver off len hx sz' ver' xs fz ho
   split at e
   ·rename_i hv1
    obtain ⟨hv1, hle⟩ := hv1
    subst hv1
    cases e
    cases r with
    | row hl hv hn hcap ha hbo =>
    rename_i cap p ad
    obtain ⟨p', hp, hr⟩ := hi.obj _ _ ho
    rw [hl] at hp
    cases hp
    obtain ⟨h1, h1', h2, h3, h4, h5, h5', h6, cs, ty, h7, h8, h9⟩ := hr
    have hlen : ((xs.drop off).take len).length = len := by simp; omega
    rcases ha h1 with hc0 | ⟨had, hcc⟩
    ·have hl0 : len = 0 := by omega
     subst hl0
     exact .inl ⟨by simp, some ad, cap, rfl, fun h => by cases h⟩
    ·subst had
     refine .inr ⟨p.blk, p.base + off * p.sz, cap, by rw [hlen], fun i y j d hy hd => ?_⟩
     have hmem := List.mem_of_getElem? hy
     rw [List.getElem?_take] at hy
     split at hy
     ·rw [List.getElem?_drop] at hy
      have hss : p.sz = sz := by
       rw [h2, ← h6 y (List.mem_of_getElem? hy), hsz y hmem]
      obtain ⟨v, g1, g2⟩ := h9 _ y j d hy hd
      refine ⟨v, ?_, g2⟩
      rw [cell_of_row w _ _ cs ty _ h7, ← g1, hss, show sz' = sz by rw [← h2, hss], Nat.add_mul]
      congr 1
      omega
     ·cases hy
   ·cases e
  ·cases e
 ·split at e
  ·rename_i id off len hx ds ho
   split at e
   ·rename_i hle
    cases e
    cases r with
    | csl hl hv hn hcap ha =>
    rename_i cap p ad
    obtain ⟨p', hp, hr⟩ := hi.obj _ _ ho
    rw [hl] at hp
    cases hp
    obtain ⟨h1, h2, h3, cs, ty, h4, h5, h6⟩ := hr
    have hlen : (((ds.drop off).take len).map fun d => [d]).length = len := by simp; omega
    rcases ha h1 with hc0 | had
    ·have hl0 : len = 0 := by omega
     subst hl0
     exact .inl ⟨by simp, some ad, cap, rfl, fun h => by cases h⟩
    ·subst had
     refine .inr ⟨p.blk, p.base + off, cap, by rw [hlen], fun i y j d hy hd => ?_⟩
     have hmem := List.mem_of_getElem? hy
     simp only [List.getElem?_map, Option.map_eq_some_iff] at hy
     obtain ⟨d0, hy, rfl⟩ := hy
     have hs1 : sz = 1 := by rw [← hsz _ hmem]; rfl
     subst hs1
     cases j with
     | succ j => simp at hd
     | zero =>
      simp at hd
      subst hd
      rw [List.getElem?_take] at hy
      split at hy
      ·rw [List.getElem?_drop] at hy
       obtain ⟨v, g1, g2⟩ := h6 _ d0 hy
       refine ⟨v, ?_, g2⟩
       rw [cell_of_row w _ _ cs ty _ h4, ← g1]
       congr 1
       omega
      ·cases hy
   ·cases e
  ·cases e
 ·cases e
end Go.Proofs.YtpagdhbmbnoddaaGreatDoor.Zz
