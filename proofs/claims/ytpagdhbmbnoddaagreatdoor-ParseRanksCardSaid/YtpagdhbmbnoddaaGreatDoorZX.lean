/- Running code by laws: what is left to do is data, so that nothing is looked at before its turn. -/
import Derived.Test.YtpagdhbmbnoddaaGreatDoorZU
import Derived.Laws.Externs
import Derived.KernelRfl
set_option linter.unnecessarySimpa false
set_option linter.unusedVariables false
set_option linter.unusedSimpArgs false
namespace Go.Proofs.YtpagdhbmbnoddaaGreatDoor.Zz
variable {T : Tab} {K : Ex → Fr → AHeap → Prop} {E : Fr → D → AHeap → Prop} {σ : Fr} {h : AHeap}

inductive Item where
  | stm (s : Stm)
  | blk (id : Nat)
  | lp (Q : Fr → AHeap → Prop)

/-- What is left to do. -/
def todo (T : Tab) (K : Ex → Fr → AHeap → Prop) (E : Fr → D → AHeap → Prop) : List Item → Ex → Fr → AHeap → Prop
  | [], e, σ, h => K e σ h
  | .stm s :: k, e, σ, h => match e with
    | .normal => vc T s (todo T K E k) E σ h
    | e => todo T K E k e σ h
  | .blk id :: k, e, σ, h => match e with
    | .exit i => if i = id then todo T K E k .normal σ h else todo T K E k (.exit i) σ h
    | e => todo T K E k e σ h
  | .lp Q :: k, e, σ, h => match e with
    | .normal => Q σ h
    | e => todo T K E k e σ h

theorem vc_todo {s : Stm} : vc T s K E σ h = vc T s (todo T K E []) E σ h := by
  congr 1
theorem run_skip {k : List Item} : vc T .skip (todo T K E k) E σ h = todo T K E k .normal σ h := rfl
theorem run_exit {id : Nat} {k : List Item} : vc T (.exit id) (todo T K E k) E σ h = todo T K E k (.exit id) σ h := rfl
theorem run_ret {k : List Item} : vc T .ret (todo T K E k) E σ h = todo T K E k .ret σ h := rfl
theorem run_seq {a b : Stm} {k : List Item} : vc T (.seq a b) (todo T K E k) E σ h = vc T a (todo T K E (.stm b :: k)) E σ h := by
  show vc T a _ E σ h = vc T a _ E σ h
  congr 1
theorem run_block {id : Nat} {s : Stm} {k : List Item} : vc T (.block id s) (todo T K E k) E σ h = vc T s (todo T K E (.blk id :: k)) E σ h := by
  show vc T s _ E σ h = vc T s _ E σ h
  congr 1

/-- A choice, by a value. -/
def pickC (T : Tab) (K : Ex → Fr → AHeap → Prop) (E : Fr → D → AHeap → Prop) (c : Opd) (a b : Stm) (k : List Item) (σ : Fr) (h : AHeap) : D → Prop
  | .bool t => (t = true → vc T a (todo T K E k) E (σ.mark c true) h) ∧ (t = false → vc T b (todo T K E k) E (σ.mark c false) h)
  | _ => False
theorem run_cond {c : Opd} {a b : Stm} {k : List Item} : vc T (.cond c a b) (todo T K E k) E σ h = pickC T K E c a b k σ h (σ.ev c) := by
  show (match σ.ev c with | .bool t => _ | _ => False) = _
  generalize σ.ev c = d
  cases d <;> rfl
theorem pickC_true {c : Opd} {a b : Stm} {k : List Item} : pickC T K E c a b k σ h (.bool true) = vc T a (todo T K E k) E (σ.mark c true) h := by simp [pickC]
theorem pickC_false {c : Opd} {a b : Stm} {k : List Item} : pickC T K E c a b k σ h (.bool false) = vc T b (todo T K E k) E (σ.mark c false) h := by simp [pickC]
theorem pickC_bool {c : Opd} {a b : Stm} {k : List Item} {t : Bool} : pickC T K E c a b k σ h (.bool t) = ((t = true → vc T a (todo T K E k) E (σ.mark c true) h) ∧ (t = false → vc T b (todo T K E k) E (σ.mark c false) h)) := rfl

theorem todo_stm {s : Stm} {k : List Item} : todo T K E (.stm s :: k) .normal σ h = vc T s (todo T K E k) E σ h := rfl
theorem todo_stm_ret {s : Stm} {k : List Item} : todo T K E (.stm s :: k) .ret σ h = todo T K E k .ret σ h := rfl
theorem todo_stm_exit {s : Stm} {i : Nat} {k : List Item} : todo T K E (.stm s :: k) (.exit i) σ h = todo T K E k (.exit i) σ h := rfl
theorem todo_blk {id : Nat} {k : List Item} : todo T K E (.blk id :: k) .normal σ h = todo T K E k .normal σ h := rfl
theorem todo_blk_ret {id : Nat} {k : List Item} : todo T K E (.blk id :: k) .ret σ h = todo T K E k .ret σ h := rfl
theorem todo_blk_exit {id i : Nat} {k : List Item} : todo T K E (.blk id :: k) (.exit i) σ h = if i = id then todo T K E k .normal σ h else todo T K E k (.exit i) σ h := rfl
theorem todo_lp {Q : Fr → AHeap → Prop} {k : List Item} : todo T K E (.lp Q :: k) .normal σ h = Q σ h := rfl
theorem todo_lp_ret {Q : Fr → AHeap → Prop} {k : List Item} : todo T K E (.lp Q :: k) .ret σ h = todo T K E k .ret σ h := rfl
theorem todo_lp_exit {Q : Fr → AHeap → Prop} {i : Nat} {k : List Item} : todo T K E (.lp Q :: k) (.exit i) σ h = todo T K E k (.exit i) σ h := rfl
theorem todo_nil {e : Ex} : todo T K E [] e σ h = K e σ h := rfl

/-! ### Operations -/
def kont (T : Tab) (os : List OpI) (K : Fr → AHeap → Prop) (E : Fr → D → AHeap → Prop) (d : Option Nat) (σ : Fr) (x : D) (h : AHeap) : Prop := vcOps T os K E (σ.put d x) h
def ask : Option D → (D → AHeap → Prop) → AHeap → Prop
  | some x, K, h => K x h
  | none, _, _ => False
def askH : Option AHeap → (D → AHeap → Prop) → Prop
  | some h, K => K .undef h
  | none, _ => False
theorem ask_some {x : D} {K : D → AHeap → Prop} : ask (some x) K h = K x h := rfl
theorem ask_none {K : D → AHeap → Prop} : ask none K h = False := rfl
theorem ask_ite {c : Prop} [Decidable c] {o : Option D} {K : D → AHeap → Prop} : ask (if c then o else none) K h = (c ∧ ask o K h) := by
  split <;> simp_all [ask]
theorem askH_some {K : D → AHeap → Prop} : askH (some h) K = K .undef h := rfl
theorem askH_none {K : D → AHeap → Prop} : askH none K = False := rfl
theorem askH_ite {c : Prop} [Decidable c] {o : Option AHeap} {K : D → AHeap → Prop} : askH (if c then o else none) K = (c ∧ askH o K) := by
  split <;> simp_all [askH]
theorem ask_ex {o : Option D} {K : D → AHeap → Prop} : (∃ d, o = some d ∧ K d h) = ask o K h := by
  cases o <;> simp [ask]
theorem askH_ex {o : Option AHeap} {K : D → AHeap → Prop} : (∃ h', o = some h' ∧ K .undef h') = askH o K := by
  cases o <;> simp [askH]

section
variable {os : List OpI} {K : Fr → AHeap → Prop} {d : Option Nat} {x : D}
theorem kont_app : kont T os K E d σ x h = vcOps T os K E (σ.put d x) h := rfl
theorem op_p {i : Ins Opd} : vcOps T (⟨i, d, none, true⟩ :: os) K E σ h = ask (valP (i.map σ.ev)) (kont T os K E d σ) h := by
  rw [← ask_ex]; rfl
theorem op_n {i : Ins Opd} : vcOps T (⟨i, d, none, false⟩ :: os) K E σ h = vcI T (i.map σ.ev) h (kont T os K E d σ) (E σ) := rfl

/-- A guard, by the value of its slot. -/
def guard (T : Tab) (i : Ins Opd) (d : Option Nat) (t : Nat) (want p : Bool) (os : List OpI) (K : Fr → AHeap → Prop) (E : Fr → D → AHeap → Prop) (σ : Fr) (h : AHeap) : D → Prop
  | .bool b => (b = want → vcOps T (⟨i, d, none, p⟩ :: os) K E (σ.put (some t) (.bool want)) h) ∧ (b = !want → vcOps T os K E ((σ.put (some t) (.bool (!want))).put d (.tuple [])) h)
  | .tuple [] => vcOps T os K E (σ.put d (.tuple [])) h
  | _ => False
theorem op_g {i : Ins Opd} {t : Nat} {want p : Bool} : vcOps T (⟨i, d, some (t, want), p⟩ :: os) K E σ h = guard T i d t want p os K E σ h (σ.env t) := by
  simp only [vcOps, opA]
  cases e : σ.env t with
  | bool b =>
    simp only [guard]
    congr 1
    apply propext
    constructor
    · intro h1 hb; subst hb; rw [Fr.put_same e] at h1 ⊢; exact h1 rfl
    · intro h1 hb; subst hb; rw [Fr.put_same e] at h1 ⊢; exact h1 rfl
  | tuple ds => cases ds <;> rfl
  | _ => rfl
theorem guard_yes {i : Ins Opd} {t : Nat} {want p : Bool} {b : Bool} (hb : b = want) : guard T i d t want p os K E σ h (.bool b) = vcOps T (⟨i, d, none, p⟩ :: os) K E (σ.put (some t) (.bool want)) h := by
  subst hb; cases b <;> simp [guard]
theorem guard_tt {i : Ins Opd} {t : Nat} {p : Bool} : guard T i d t true p os K E σ h (.bool true) = vcOps T (⟨i, d, none, p⟩ :: os) K E (σ.put (some t) (.bool true)) h := by simp [guard]
theorem guard_ff {i : Ins Opd} {t : Nat} {p : Bool} : guard T i d t false p os K E σ h (.bool false) = vcOps T (⟨i, d, none, p⟩ :: os) K E (σ.put (some t) (.bool false)) h := by simp [guard]
theorem guard_tf {i : Ins Opd} {t : Nat} {p : Bool} : guard T i d t true p os K E σ h (.bool false) = vcOps T os K E ((σ.put (some t) (.bool false)).put d (.tuple [])) h := by simp [guard]
theorem guard_ft {i : Ins Opd} {t : Nat} {p : Bool} : guard T i d t false p os K E σ h (.bool true) = vcOps T os K E ((σ.put (some t) (.bool true)).put d (.tuple [])) h := by simp [guard]
theorem guard_t {i : Ins Opd} {t : Nat} {p b : Bool} : guard T i d t true p os K E σ h (.bool b) = ((b = true → vcOps T (⟨i, d, none, p⟩ :: os) K E (σ.put (some t) (.bool true)) h) ∧ (b = false → vcOps T os K E ((σ.put (some t) (.bool false)).put d (.tuple [])) h)) := rfl
theorem guard_f {i : Ins Opd} {t : Nat} {p b : Bool} : guard T i d t false p os K E σ h (.bool b) = ((b = false → vcOps T (⟨i, d, none, p⟩ :: os) K E (σ.put (some t) (.bool false)) h) ∧ (b = true → vcOps T os K E ((σ.put (some t) (.bool true)).put d (.tuple [])) h)) := rfl
theorem guard_no {i : Ins Opd} {t : Nat} {want p : Bool} : guard T i d t want p os K E σ h (.tuple []) = vcOps T os K E (σ.put d (.tuple [])) h := rfl
end

/-! ### What only reckons -/
theorem v_mov {x : D} : valP (.mov x) = some x := rfl
theorem v_pick {c : Bool} {a b : D} : valP (.pick (.bool c) a b) = some (bif c then a else b) := rfl
theorem v_build {zs : List D} {ps : List (Nat × Nat × D)} : valP (.build zs ps) = (buildD zs ps).map .agg := rfl
theorem v_bs {sz len : Nat} {zs : List D} {ps : List (Nat × D)} : valP (.buildSlice sz zs len ps false) = (buildRows sz (rowsOf sz zs len) ps).map fun xs => .sl (normX zs xs) := rfl
theorem v_nc_ptr {a b c : Nat} : valP (.nilCheck (.ptr a b c)) = some (.ptr a b c) := rfl
theorem v_nc_eptr {a : List D} {c : Nat} : valP (.nilCheck (.eptr a c)) = some (.eptr a c) := rfl
theorem v_nc_rptr {a b c d : Nat} : valP (.nilCheck (.rptr a b c d)) = some (.rptr a b c d) := rfl
theorem v_nc_func {k : FuncId} {a b : List D} : valP (.nilCheck (.func (.func k) a b)) = some (.func (.func k) a b) := rfl
theorem v_bin {op : BinOp} {x y : D} : valP (.bin op x y) = binEv op x y := rfl
theorem v_eql {t : ET} {neg : Bool} {x y : D} : valP (.eql t neg x y) = (eqEv t x y).map fun b => .bool (if neg then !b else b) := rfl
theorem v_un {op : UnOp} {x : D} : valP (.un op x) = unEv op x := rfl
theorem v_intInt {k k' : IntKind} {n : Int} : valP (.conv (.intInt k) (.int k' n)) = some (.int k (k.wrap n)) := rfl
theorem v_intFloat {k' : IntKind} {n : Int} : valP (.conv .intFloat (.int k' n)) = some (.float .f64 (FloatKind.f64.nearest n)) := rfl
theorem v_same {s : List UInt8} : valP (.conv .same (.str s)) = some (.str s) := rfl
theorem v_strBytes {s : List UInt8} : valP (.conv .strBytes (.str s)) = some (.sl (encB s)) := rfl
theorem v_slice {k : SK} {x : D} {lo hi mx : Option D} : valP (.slice k x lo hi mx) = sliceEv k x lo hi mx := rfl
theorem v_fa_ptr {o a b c : Nat} : valP (.fieldAddr o (.ptr a b c)) = some (.ptr a b (c + o)) := rfl
theorem v_fa_eptr {o c : Nat} {a : List D} : valP (.fieldAddr o (.eptr a c)) = some (.eptr a (c + o)) := rfl
theorem v_fa_rptr {o a b c d : Nat} : valP (.fieldAddr o (.rptr a b c d)) = some (.rptr a b c (d + o)) := rfl
theorem v_field {o : Nat} {n : Option Nat} {ds : List D} : valP (.field o n (.agg ds)) = partD ds o n := rfl
theorem v_ia_ptr {len sz a b c : Nat} {k : IntKind} {i : Int} : valP (.indexAddrA len sz (.ptr a b c) (.int k i)) = if 0 ≤ i ∧ i < len then some (.ptr a b (c + i.toNat * sz)) else none := rfl
theorem v_ia_eptr {len sz c : Nat} {a : List D} {k : IntKind} {i : Int} : valP (.indexAddrA len sz (.eptr a c) (.int k i)) = if 0 ≤ i ∧ i < len then some (.eptr a (c + i.toNat * sz)) else none := rfl
theorem v_ia_rptr {len sz a b c d : Nat} {k : IntKind} {i : Int} : valP (.indexAddrA len sz (.rptr a b c d) (.int k i)) = if 0 ≤ i ∧ i < len then some (.rptr a b c (d + i.toNat * sz)) else none := rfl
theorem v_indexA {len sz : Nat} {n : Option Nat} {ds : List D} {k : IntKind} {i : Int} : valP (.indexA len sz n (.agg ds) (.int k i)) = if 0 ≤ i ∧ i < len then partD ds (i.toNat * sz) n else none := rfl
theorem v_indexS {s : List UInt8} {k : IntKind} {i : Int} : valP (.indexS (.str s) (.int k i)) = if 0 ≤ i ∧ i < s.length then some (.int .u8 ((s.getD i.toNat 0).toNat : Int)) else none := ev_indexS s k i
theorem v_is_enc {s : List UInt8} {k : IntKind} {i : Int} : valP (.indexAddrS 1 (.sl (encB s)) (.int k i)) = if 0 ≤ i ∧ i < s.length then some (.eptr [.int .u8 ((s.getD i.toNat 0).toNat : Int)] 0) else none := by
  show pureEv (.indexAddrS 1 (.sl (encB s)) (.int k i)) = _
  rw [ev_indexAddrS, len_encB]
  by_cases h : 0 ≤ i ∧ i < s.length
  · rw [if_pos h, getD_encB s _ (by omega), if_pos ⟨h, rfl⟩]
  · rw [if_neg h, if_neg (fun x => h x.1)]
theorem v_is_csl {id off len : Nat} {k : IntKind} {i : Int} : valP (.indexAddrS 1 (.csl id off len) (.int k i)) = if 0 ≤ i ∧ i < len ∧ (1 : Nat) = 1 then some (.ptr id 1 (off + i.toNat)) else none := rfl
theorem v_extract {ds : List D} {i : Nat} : valP (.extract (.tuple ds) i) = ds[i]? := rfl
theorem v_mkIface {t : TypeId} {x : D} : valP (.mkIface t x) = some (.iface t x) := rfl
theorem v_mkFunc {fn : Fn} {a b : List D} : valP (.mkFunc fn a b) = some (.func fn a b) := rfl
theorem v_max {k k' : IntKind} {a b : Int} : valP (.minmax true (.int k a) (.int k' b)) = some (.int k (if a < b then b else a)) := rfl
theorem v_min {k k' : IntKind} {a b : Int} : valP (.minmax false (.int k a) (.int k' b)) = some (.int k (if b < a then b else a)) := rfl
theorem v_len0 {k : LK} {x : D} : valP (.len0 k x) = lenD k x := rfl

/-! ### Instructions, each by what it asks -/
section
variable {K E : D → AHeap → Prop}
theorem i_alloc {ds : List D} : vcI T (.alloc ds) h K E = ∀ id, h.f id = none → K (.ptr id 1 0) (h.set id (.cells ds)) := rfl
theorem i_box {x : D} : vcI T (.box x) h K E = ((cellsD x).all cellOk = true ∧ ∀ id, h.f id = none → K (.ptr id 1 0) (h.set id (.cells (cellsD x)))) := rfl
theorem i_bs {sz len : Nat} {zs : List D} {ps : List (Nat × D)} : vcI T (.buildSlice sz zs len ps true) h K E = ∃ xs, buildRows sz (rowsOf sz zs len) ps = some xs ∧ ∀ id, h.f id = none → K (.row id (len + 2) 0 len) (h.set id (.row sz (len + 2) xs false)) := rfl
theorem i_load {n : Option Nat} {x : D} : vcI T (.load n x) h K E = ask (loadD h n x) K h := by rw [← ask_ex]; rfl
theorem i_loadOf {n : Option Nat} {x b : D} : vcI T (.loadOf n x b) h K E = ask (if objSame x b = true then loadD h n x else none) K h := by rw [← ask_ex]; rfl
theorem i_callNe {k : FuncId} {first cap args ys : List D} : vcI T (.callNe (.func (.func k) first cap) args ys) h K E = T.c k ((first ++ args ++ cap).map (plain h)) (frzL h (first ++ args ++ cap)) (fun d h' => (∀ y ∈ ys, keptAt h h' y) ∧ K d h') E := rfl
theorem i_callA {k : FuncId} : vcI T (.callA k) h K E = ∃ ds, T.a k = some ds ∧ ∀ id, h.f id = none → K (.ptr id 1 0) (h.set id (.cells ds)) := rfl
theorem i_store {n : Nat} {x v : D} : vcI T (.store n x v) h K E = askH (storeD h n x v) K := by rw [← askH_ex]; rfl
theorem i_storeNe {n : Nat} {x v : D} {ys : List D} : vcI T (.storeNe n x v ys) h K E = (ys.all (objNe x) = true ∧ askH (storeD h n x v) K) := by rw [← askH_ex]; rfl
theorem i_bytesStr {x : D} : vcI T (.conv .bytesStr x) h K E = ask (readEv h (.conv .bytesStr x)) K h := by rw [← ask_ex]; rfl
theorem i_slice_row {k : SK} {r ver off len : Nat} {lo hi mx : Option D} : vcI T (.slice k (.row r ver off len) lo hi mx) h K E = ask (readEv h (.slice k (.row r ver off len) lo hi mx)) K h := by rw [← ask_ex]; rfl
theorem i_slice_str {k : SK} {s : List UInt8} {lo hi mx : Option D} : vcI T (.slice k (.str s) lo hi mx) h K E = ask (sliceEv k (.str s) lo hi mx) K h := by rw [← ask_ex]; rfl
theorem i_slice_sl {k : SK} {s : List (List D)} {lo hi mx : Option D} : vcI T (.slice k (.sl s) lo hi mx) h K E = ask (sliceEv k (.sl s) lo hi mx) K h := by rw [← ask_ex]; rfl
theorem i_slice_ptr {k : SK} {a b c : Nat} {lo hi mx : Option D} : vcI T (.slice k (.ptr a b c) lo hi mx) h K E = ask (sliceEv k (.ptr a b c) lo hi mx) K h := by rw [← ask_ex]; rfl
theorem i_index_row {sz r ver off len : Nat} {i : D} : vcI T (.indexAddrS sz (.row r ver off len) i) h K E = ask (readEv h (.indexAddrS sz (.row r ver off len) i)) K h := by rw [← ask_ex]; rfl
theorem i_index_sl {sz : Nat} {xs : List (List D)} {i : D} : vcI T (.indexAddrS sz (.sl xs) i) h K E = ask (pureEv (.indexAddrS sz (.sl xs) i)) K h := by rw [← ask_ex]; rfl
/-- An element of a slice that was read. -/
def askE (sz : Nat) (K : D → AHeap → Prop) (h : AHeap) (xs : List (List D)) (i : Int) : Prop := (0 ≤ i ∧ i < xs.length) ∧ ∀ x, xs[i.toNat]? = some x → x.length = sz ∧ K (.eptr x 0) h
theorem i_index_any {sz : Nat} {xs : List (List D)} {k : IntKind} {i : Int} : vcI T (.indexAddrS sz (.sl xs) (.int k i)) h K E = askE sz K h xs i := by
  rw [i_index_sl]
  simp only [pureEv, askE]
  by_cases h0 : 0 ≤ i
  · rw [if_pos h0]
    cases e : xs[i.toNat]? with
    | none =>
      have : ¬ i < (xs.length : Int) := by have := List.getElem?_eq_none_iff.1 e; omega
      simp [ask, this]
    | some x =>
      have : i.toNat < xs.length := (List.getElem?_eq_some_iff.1 e).1
      have h2 : i < (xs.length : Int) := by omega
      simp only [ask_ite, ask_some, h0, h2, and_self, true_and, Option.some.injEq, forall_eq']
  · simp [h0, ask]
theorem askE_enc {s : List UInt8} {i : Int} : askE 1 K h (encB s) i = ((0 ≤ i ∧ i < s.length) ∧ K (.eptr [.int .u8 ((s.getD i.toNat 0).toNat : Int)] 0) h) := by
  simp only [askE, len_encB]
  by_cases h0 : 0 ≤ i ∧ i < s.length
  · rw [enc_get s _ (by omega)]
    simp [h0]
  · simp [h0]
theorem askE_map {α : Type} {sz : Nat} {f : α → List D} {l : List α} {i : Int} (hf : ∀ x, (f x).length = sz) : askE sz K h (l.map f) i = ((0 ≤ i ∧ i < l.length) ∧ ∀ x, l[i.toNat]? = some x → K (.eptr (f x) 0) h) := by
  simp only [askE, List.length_map, List.getElem?_map, Option.map_eq_some_iff]
  congr 1
  apply propext
  constructor
  · intro q x hx; exact (q (f x) ⟨x, hx, rfl⟩).2
  · rintro q _ ⟨x, hx, rfl⟩; exact ⟨hf x, q x hx⟩
theorem i_index_csl {sz id off len : Nat} {i : D} : vcI T (.indexAddrS sz (.csl id off len) i) h K E = ask (pureEv (.indexAddrS sz (.csl id off len) i)) K h := by rw [← ask_ex]; rfl
theorem i_len_str {s : List UInt8} : vcI T (.len .str (.str s)) h K E = (s.length ≤ 9223372036854775807 → K (.int .i64 (s.length : Int)) h) := rfl
theorem i_len_arr {n : Nat} {x : D} : vcI T (.len (.arr n) x) h K E = K (.int .i64 (n : Int)) h := rfl
theorem i_len_nil : vcI T (.len .sl .nilsl) h K E = K (.int .i64 0) h := rfl
theorem i_len_sl {xs : List (List D)} : vcI T (.len .sl (.sl xs)) h K E = (xs.length ≤ 9223372036854775807 → K (.int .i64 (xs.length : Int)) h) := rfl
theorem i_len_row {r ver off len : Nat} : vcI T (.len .sl (.row r ver off len)) h K E = (len ≤ 9223372036854775807 → K (.int .i64 (len : Int)) h) := rfl
theorem i_len_csl {id off len : Nat} : vcI T (.len .sl (.csl id off len)) h K E = (len ≤ 9223372036854775807 → K (.int .i64 (len : Int)) h) := rfl
theorem i_makeSlice {sz b : Nat} {zs : List D} {k k' : IntKind} {l c : Int} : vcI T (.makeSlice sz b zs (.int k l) (.int k' c)) h K E = (0 ≤ l ∧ l = c ∧ l * b ≤ 140737488355328 ∧ zs.length = sz ∧ 0 < sz ∧ ∀ id, h.f id = none → K (.row id (l.toNat + 2) 0 l.toNat) (h.set id (.row sz (l.toNat + 2) (rowsOf sz zs l.toNat) false))) := rfl
theorem i_call {k : FuncId} {first cap args : List D} : vcI T (.call (.func (.func k) first cap) args) h K E = T.c k ((first ++ args ++ cap).map (plain h)) (frzL h (first ++ args ++ cap)) K E := rfl
theorem i_qcall {k : FuncId} {first cap args : List D} : vcI T (.qcall (.func (.func k) first cap) args) h K E = ask (T.q k ((first ++ args ++ cap).map (plain h))) (fun d h' => K d (lentH d h h')) (frzL h (first ++ args ++ cap)) := by rw [← ask_ex]; rfl
theorem lent_bool {b : Bool} {h h' : AHeap} : lentH (.bool b) h h' = h := rfl
theorem lent_int {k : IntKind} {n : Int} {h h' : AHeap} : lentH (.int k n) h h' = h := rfl
theorem lent_float {k : FloatKind} {n : Nat} {h h' : AHeap} : lentH (.float k n) h h' = h := rfl
theorem lent_str {s : List UInt8} {h h' : AHeap} : lentH (.str s) h h' = h := rfl
theorem lent_agg {ds : List D} {h h' : AHeap} : lentH (.agg ds) h h' = h' := rfl
theorem lent_tuple {ds : List D} {h h' : AHeap} : lentH (.tuple ds) h h' = h' := rfl
theorem lent_sl {xs : List (List D)} {h h' : AHeap} : lentH (.sl xs) h h' = h' := rfl
theorem lent_func {f : Fn} {a b : List D} {h h' : AHeap} : lentH (.func f a b) h h' = h' := rfl
theorem lent_iface {t : TypeId} {d : D} {h h' : AHeap} : lentH (.iface t d) h h' = h' := rfl
theorem lent_nilif {h h' : AHeap} : lentH .nilif h h' = h' := rfl
theorem lent_same {d : D} {h : AHeap} : lentH d h h = h := by cases d <;> rfl
theorem i_panic {t : TypeId} {d : D} : vcI T (.panic (.iface t d)) h K E = E (.iface t d) h := rfl
/-- Appending, by what is appended. -/
def appK (sz bytes : Nat) (s : D) (h : AHeap) (K : D → AHeap → Prop) : Option (List (List D)) → Prop
  | none => False
  | some ys => (∀ y ∈ ys, y.length = sz ∧ y.all cellOk = true) ∧ 0 < bytes ∧
      (match s with
       | .nilsl => (ys = [] → K .nilsl h) ∧ ys.length * bytes ≤ 140737488355328 ∧ (ys ≠ [] → ∀ id, h.f id = none → K (.row id (ys.length + 2) 0 ys.length) (h.set id (.row sz (ys.length + 2) ys false)))
       | .row r ver off len => match h.f r with
         | some (.row sz' ver' xs false) => ver = ver' ∧ sz' = sz ∧ off = 0 ∧ len = xs.length ∧ (xs.length + ys.length) * bytes ≤ 140737488355328 ∧
             K (.row r (ver + ys.length) 0 (len + ys.length)) (h.set r (.row sz (ver + ys.length) (xs ++ ys) false))
         | _ => False
       | _ => False)
theorem i_append {sz b : Nat} {str : Bool} {s x : D} : vcI T (.append sz b str s x) h K E = appK sz b s h K (srcOf h str x) := by
  simp only [vcI]
  generalize srcOf h str x = o
  cases o with
  | none => simp [appK]
  | some ys => simp only [Option.some.injEq, exists_eq_left', appK]; rfl
theorem srcOf_str {b : List UInt8} : srcOf h true (.str b) = some (encB b) := rfl
theorem srcOf_sl {x : D} : srcOf h false x = elemsOf h x := rfl
theorem app_nil {sz b : Nat} {ys : List (List D)} : appK sz b .nilsl h K (some ys) = ((∀ y ∈ ys, y.length = sz ∧ y.all cellOk = true) ∧ 0 < b ∧ (ys = [] → K .nilsl h) ∧ ys.length * b ≤ 140737488355328 ∧ (ys ≠ [] → ∀ id, h.f id = none → K (.row id (ys.length + 2) 0 ys.length) (h.set id (.row sz (ys.length + 2) ys false)))) := rfl
/-- Appending to a row, by the object. -/
def appR (sz b r ver off len : Nat) (ys : List (List D)) (h : AHeap) (K : D → AHeap → Prop) : Option AObj → Prop
  | some (.row sz' ver' xs false) => ver = ver' ∧ sz' = sz ∧ off = 0 ∧ len = xs.length ∧ (xs.length + ys.length) * b ≤ 140737488355328 ∧
             K (.row r (ver + ys.length) 0 (len + ys.length)) (h.set r (.row sz (ver + ys.length) (xs ++ ys) false))
  | _ => False
theorem app_row {sz b r ver off len : Nat} {ys : List (List D)} : appK sz b (.row r ver off len) h K (some ys) = ((∀ y ∈ ys, y.length = sz ∧ y.all cellOk = true) ∧ 0 < b ∧ appR sz b r ver off len ys h K (h.f r)) := by
  simp only [appK]
  congr 2
theorem appR_row {sz b r ver off len sz' ver' : Nat} {ys xs : List (List D)} : appR sz b r ver off len ys h K (some (.row sz' ver' xs false)) = (ver = ver' ∧ sz' = sz ∧ off = 0 ∧ len = xs.length ∧ (xs.length + ys.length) * b ≤ 140737488355328 ∧
             K (.row r (ver + ys.length) 0 (len + ys.length)) (h.set r (.row sz (ver + ys.length) (xs ++ ys) false))) := rfl
theorem enc_cells (s : List UInt8) : (∀ y ∈ encB s, y.length = 1 ∧ y.all cellOk = true) = True := by simp [encB, cellOk]
end

/-- A row's bytes, as a string. -/
def strRow (ver off len : Nat) : Option AObj → Option D
  | some (.row sz ver' xs fz) => if ver = ver' ∧ off + len ≤ xs.length then (if ((xs.drop off).take len).all isByte = true then some (.str (((xs.drop off).take len).map byteOf)) else none) else none
  | _ => none
theorem i_str_row {r ver off len : Nat} {K E : D → AHeap → Prop} : vcI T (.conv .bytesStr (.row r ver off len)) h K E = ask (strRow ver off len (h.f r)) K h := by
  rw [i_bytesStr]
  congr 1
  simp only [readEv, elemsOf]
  generalize h.f r = o
  cases o with
  | none => rfl
  | some o =>
    cases o with
    | row sz ver' xs fz =>
      simp only [strRow]
      by_cases hc : ver = ver' ∧ off + len ≤ xs.length
      · rw [if_pos hc, if_pos hc]
      · rw [if_neg hc, if_neg hc]
    | _ => rfl
theorem strRow_enc {ver off len sz ver' : Nat} {s : List UInt8} {fz : Bool} : strRow ver off len (some (.row sz ver' (encB s) fz)) = if ver = ver' ∧ off + len ≤ s.length then some (.str ((s.drop off).take len)) else none := by
  simp only [strRow, enc_drop, enc_take, enc_all, enc_dec, len_encB, if_true]
theorem i_str_sl {s : List UInt8} {K E : D → AHeap → Prop} : vcI T (.conv .bytesStr (.sl (encB s))) h K E = K (.str s) h := by
  rw [i_bytesStr]
  simp only [readEv, elemsOf, enc_all, enc_dec, if_true, ask]
theorem i_str_nil {K E : D → AHeap → Prop} : vcI T (.conv .bytesStr .nilsl) h K E = K (.str []) h := by
  rw [i_bytesStr]
  simp [readEv, elemsOf, ask]

/-- The end of a loop's round. -/
theorem run_loop {s : Stm} {k : List Item} {X : Type} (F : X → List (Nat × D)) (H : X → AHeap) (μ : X → Nat) (I : X → Prop) (x0 : X) (h1 : I x0) (h2 : leL (F x0) σ) (h3 : (H x0).sub h)
    (h4 : ∀ (x : X) (Q : Fr → AHeap → Prop), I x → (∀ x' σ' h', I x' → leL (F x') σ' → (H x').sub h' → μ x' < μ x → Q σ' h') → vc T s (todo T K E (.lp Q :: k)) E (mkFr (F x)) (H x)) : vc T (.loop s) (todo T K E k) E σ h := by
  refine vc_for F H μ I x0 h1 h2 h3 fun x hx => ?_
  refine vc_mono (fun e σ' h' kk => ?_) (fun _ _ _ kk => kk) (h4 x (fun σ' h' => ∃ x', I x' ∧ leL (F x') σ' ∧ (H x').sub h' ∧ μ x' < μ x) hx fun x' σ' h' a b c d => ⟨x', a, b, c, d⟩)
  cases e <;> exact kk
theorem fresh_ite {α : Type} {i j : Nat} {x : α} {o : Option α} : ((if i = j then some x else o) = none) = (i ≠ j ∧ j ≠ i ∧ o = none) := by
  by_cases e : i = j
  · subst e; simp
  · have : j ≠ i := fun x => e x.symm
    simp [e, this]
theorem encB_nil {s : List UInt8} : (encB s = []) = (s = []) := by simp [encB]
/-- A loop, so many rounds of it. -/
def rounds (T : Tab) (K : Ex → Fr → AHeap → Prop) (E : Fr → D → AHeap → Prop) (s : Stm) (k : List Item) : Nat → Fr → AHeap → Prop
  | 0, _, _ => False
  | n + 1, σ, h => vc T s (todo T K E (.lp (rounds T K E s k n) :: k)) E σ h
theorem rounds_succ {s : Stm} {k : List Item} {n : Nat} : rounds T K E s k (n + 1) σ h = vc T s (todo T K E (.lp (rounds T K E s k n) :: k)) E σ h := rfl
theorem run_rounds {s : Stm} {k : List Item} (n : Nat) (hr : rounds T K E s k n σ h) : vc T (.loop s) (todo T K E k) E σ h := by
  refine ⟨Fr × AHeap × Nat, fun x => x.1, fun x => x.2.1, fun x => x.2.2, fun x => rounds T K E s k x.2.2 x.1 x.2.1, (σ, h, n), hr, ⟨fun i => .inr rfl, rfl⟩, AHeap.sub_refl h, ?_⟩
  rintro ⟨σ, h, n⟩ hx
  cases n with
  | zero => exact hx.elim
  | succ n =>
    refine vc_mono (fun e σ' h' kk => ?_) (fun _ _ _ kk => kk) hx
    cases e with
    | normal => exact ⟨(σ', h', n), kk, ⟨fun i => .inr rfl, rfl⟩, AHeap.sub_refl h', Nat.lt_succ_self n⟩
    | _ => exact kk
theorem or_u64 {a b : Nat} (ha : a < 18446744073709551616) (hb : b < 18446744073709551616) : IntKind.u64.wrap ((BitVec.ofInt IntKind.u64.bits (a : Int) ||| BitVec.ofInt IntKind.u64.bits (b : Int)).toNat : Int) = ((a ||| b : Nat) : Int) := by
  have h1 : (BitVec.ofInt IntKind.u64.bits (a : Int)).toNat = a := by simp [IntKind.bits]; omega
  have h2 : (BitVec.ofInt IntKind.u64.bits (b : Int)).toNat = b := by simp [IntKind.bits]; omega
  rw [BitVec.toNat_or, h1, h2]
  exact wrap_u64 (by omega) (by have := Nat.or_lt_two_pow (n := 64) (x := a) (y := b) (by omega) (by omega); omega)
theorem or_add {a c m : Nat} (ha : a < 2 ^ m) : a ||| c * 2 ^ m = a + c * 2 ^ m := by
  have := Nat.shiftLeft_add_eq_or_of_lt ha c
  rw [Nat.shiftLeft_eq] at this
  rw [Nat.or_comm, ← this, Nat.add_comm]
theorem shl_byte {b i : Nat} (hb : b < 256) (hi : i < 8) : IntKind.u64.wrap (IntKind.u64.wrap (b : Int) * 2 ^ min (8 * i) IntKind.u64.bits) = ((b * 256 ^ i : Nat) : Int) := by
  have : i = 0 ∨ i = 1 ∨ i = 2 ∨ i = 3 ∨ i = 4 ∨ i = 5 ∨ i = 6 ∨ i = 7 := by omega
  rcases this with rfl | rfl | rfl | rfl | rfl | rfl | rfl | rfl <;> simp [IntKind.wrap, IntKind.bits, IntKind.signed] <;> omega
theorem ask_ite_none {c : Prop} [Decidable c] {o : Option D} {K : D → AHeap → Prop} : ask (if c then none else o) K h = (¬ c ∧ ask o K h) := by
  split <;> simp_all [ask]
/-- Panics, as a caller sees them. -/
def panS (E : D → AHeap → Prop) : Fr → D → AHeap → Prop := fun σ d h => σ.defs = [] ∧ E d h
theorem Ed_panS {E : D → AHeap → Prop} {d : D} {h : AHeap} : Ed (panS E) [] d h = E d h := propext ⟨fun k => (k ⟨fun _ => .undef, []⟩ rfl).2, fun k σ e => ⟨e, k⟩⟩
/-- A frame of a few slots, and its deferred calls, told of another one. -/
def leD (ds : List DDef) : List (Nat × D) → Fr → Prop
  | [], σ => σ.defs = ds
  | (j, d) :: l, σ => σ.env j = d ∧ leD ds l σ
theorem leD_nil {ds : List DDef} {σ : Fr} : leD ds [] σ = (σ.defs = ds) := rfl
theorem leD_cons {ds : List DDef} {j : Nat} {d : D} {l : List (Nat × D)} {σ : Fr} : leD ds ((j, d) :: l) σ = (σ.env j = d ∧ leD ds l σ) := rfl
theorem leD_le {ds : List DDef} : ∀ {l : List (Nat × D)} {σ : Fr}, leD ds l σ → (mkFrD l ds).le σ
  | [], σ, h => ⟨fun _ => .inl rfl, h.symm⟩
  | (j, d) :: l, σ, h => by
    have ih := leD_le h.2
    refine ⟨fun i => ?_, ih.2⟩
    simp only [mkFrD, lookupD]
    by_cases e : i = j
    · subst e; rw [if_pos rfl]; exact .inr h.1.symm
    · rw [if_neg e]; exact ih.1 i
theorem mkFrD_env (l : List (Nat × D)) (ds : List DDef) (i : Nat) : (mkFrD l ds).env i = lookupD l i := rfl
theorem mkFrD_defs (l : List (Nat × D)) (ds : List DDef) : (mkFrD l ds).defs = ds := rfl
/-- Less is told. -/
theorem run_mark {k : List Item} (l : List (Nat × D)) (ds : List DDef) (H : AHeap) (h1 : leD ds l σ) (h2 : H.sub h) (h3 : todo T K E k .normal (mkFrD l ds) H) : vc T .mark (todo T K E k) E σ h :=
  ⟨_, H, leD_le h1, h2, h3⟩
theorem run_noMark {k : List Item} (h3 : todo T K E k .normal σ h) : vc T .mark (todo T K E k) E σ h := ⟨σ, h, ⟨fun _ => .inr rfl, rfl⟩, AHeap.sub_refl h, h3⟩
/-- A call is put off. -/
def putOff (T : Tab) (K : Ex → Fr → AHeap → Prop) (E : Fr → D → AHeap → Prop) (k : List Item) (σ : Fr) (h : AHeap) (as : List D) : D → Prop
  | .func (.func f) first cap => todo T K E k .normal { σ with defs := ⟨.func f, cap, first ++ as⟩ :: σ.defs } h
  | _ => False
theorem run_defer {k : List Item} {f : Opd} {as : List Opd} : vc T (.defer f as) (todo T K E k) E σ h = putOff T K E k σ h (as.map σ.ev) (σ.ev f) := by
  show (match σ.ev f with | .func (.func f) first cap => _ | _ => False) = _
  generalize σ.ev f = d
  cases d with
  | func fn first cap => cases fn <;> rfl
  | _ => rfl
theorem putOff_func {k : List Item} {f : FuncId} {first cap as : List D} : putOff T K E k σ h as (.func (.func f) first cap) = todo T K E k .normal { σ with defs := ⟨.func f, cap, first ++ as⟩ :: σ.defs } h := rfl
theorem Fr.env_defs {σ : Fr} {ds : List DDef} {i : Nat} : ({ σ with defs := ds } : Fr).env i = σ.env i := rfl
theorem Fr.defs_defs {σ : Fr} {ds : List DDef} : ({ σ with defs := ds } : Fr).defs = ds := rfl
/-- The end of a loop's round, with calls put off. -/
theorem run_loopD {s : Stm} {k : List Item} {X : Type} (ds : List DDef) (F : X → List (Nat × D)) (H : X → AHeap) (μ : X → Nat) (I : X → Prop) (x0 : X) (h1 : I x0) (h2 : leD ds (F x0) σ) (h3 : (H x0).sub h)
    (h4 : ∀ (x : X) (Q : Fr → AHeap → Prop), I x → (∀ x' σ' h', I x' → leD ds (F x') σ' → (H x').sub h' → μ x' < μ x → Q σ' h') → vc T s (todo T K E (.lp Q :: k)) E (mkFrD (F x) ds) (H x)) : vc T (.loop s) (todo T K E k) E σ h := by
  refine ⟨X, fun x => mkFrD (F x) ds, H, μ, I, x0, h1, leD_le h2, h3, fun x hx => ?_⟩
  refine vc_mono (fun e σ' h' kk => ?_) (fun _ _ _ kk => kk) (h4 x (fun σ' h' => ∃ x', I x' ∧ leD ds (F x') σ' ∧ (H x').sub h' ∧ μ x' < μ x) hx fun x' σ' h' a b c d => ⟨x', a, b, c, d⟩)
  cases e with
  | normal => obtain ⟨x', a, b, c⟩ := kk; exact ⟨x', a, leD_le b, c⟩
  | _ => exact kk
/-- What holds behind the first part, told by some slots and some of the heap. -/
theorem run_cut {a b : Stm} {k : List Item} {X : Type} (ds : List DDef) (F : X → List (Nat × D)) (H : X → AHeap) (I : X → Prop)
    (h1 : ∀ Q : Fr → AHeap → Prop, (∀ x σ' h', I x → leD ds (F x) σ' → (H x).sub h' → Q σ' h') → vc T a (todo T K E (.lp Q :: k)) E σ h)
    (h2 : ∀ x, I x → vc T b (todo T K E k) E (mkFrD (F x) ds) (H x)) : vc T (.seq a (.seq .mark b)) (todo T K E k) E σ h := by
  rw [run_seq]
  refine vc_mono (fun e σ' h' kk => ?_) (fun _ _ _ kk => kk) (h1 (fun σ' h' => ∃ x, I x ∧ leD ds (F x) σ' ∧ (H x).sub h') fun x σ' h' a b c => ⟨x, a, b, c⟩)
  cases e with
  | normal =>
    obtain ⟨x, a1, a2, a3⟩ := kk
    show vc T (.seq .mark b) (todo T K E k) E σ' h'
    rw [run_seq]
    refine ⟨_, H x, leD_le a2, a3, ?_⟩
    exact h2 x a1
  | _ => exact kk
theorem run_cut2 {a b c : Stm} {k : List Item} {X : Type} (ds : List DDef) (F : X → List (Nat × D)) (H : X → AHeap) (I : X → Prop)
    (h1 : ∀ Q : Fr → AHeap → Prop, (∀ x σ' h', I x → leD ds (F x) σ' → (H x).sub h' → Q σ' h') → vc T a (todo T K E (.lp Q :: k)) E σ h)
    (h2 : ∀ x, I x → vc T (.seq b c) (todo T K E k) E (mkFrD (F x) ds) (H x)) : vc T (.seq a (.seq (.seq .mark b) c)) (todo T K E k) E σ h := by
  rw [run_seq]
  refine vc_mono (fun e σ' h' kk => ?_) (fun _ _ _ kk => kk) (h1 (fun σ' h' => ∃ x, I x ∧ leD ds (F x) σ' ∧ (H x).sub h') fun x σ' h' a b c => ⟨x, a, b, c⟩)
  cases e with
  | normal =>
    obtain ⟨x, a1, a2, a3⟩ := kk
    show vc T (.seq (.seq .mark b) c) (todo T K E k) E σ' h'
    rw [run_seq, run_seq]
    refine ⟨_, H x, leD_le a2, a3, ?_⟩
    have := h2 x a1
    rw [run_seq] at this
    exact this
  | _ => exact kk
/-- From a function's code. -/
theorem ACalls.run [Globs] {P : Program} (hT : T.ok P) {f : FuncId} {s : Stm} {rs : List ResI} {m : Nat} {pl : Plan} {args : List D} {h : AHeap} {K : D → AHeap → Prop} (hs : stmOf P f pl = some (s, rs, m)) (hn : args.length ≤ m)
    (hv : ∀ (E : Fr → D → AHeap → Prop), vc T s (todo T (retS rs K) E []) E (argFr args) h) : ACalls P f args h fun o h' => ∃ d, o = .ret d ∧ K d h' :=
  ACalls.of_K hT hs hn (hv _)
/-- Of plain data alone. -/
theorem PCall.run [Globs] {P : Program} (hT : T.ok P) {f : FuncId} {s : Stm} {rs : List ResI} {m : Nat} {pl : Plan} {args : List D} {d : D} (hs : stmOf P f pl = some (s, rs, m)) (hn : args.length ≤ m)
    (hv : ∀ (E : Fr → D → AHeap → Prop), vc T s (todo T (retK rs fun o _ => o = .ret d) E []) E (argFr args) .emp) : PCall P f args d :=
  ACalls.of_stm hT hs hn (hv _)

/-- What a function's body asks at its end, when what it answers is handed over as plain data. -/
def retF (rs : List ResI) (K : D → AHeap → Prop) (e : Ex) (σ : Fr) (h : AHeap) : Prop :=
  match e with
  | .exit _ => False
  | _ => σ.defs = [] ∧ ∃ ds, evRes σ h rs = some ds ∧ ∃ h', h'.sub (frzL h ds) ∧ K (tup (ds.map (plain h))) h'
theorem retF_ret {rs : List ResI} {K : D → AHeap → Prop} {σ : Fr} {h : AHeap} : retF rs K .ret σ h = (σ.defs = [] ∧ ∃ ds, evRes σ h rs = some ds ∧ ∃ h', h'.sub (frzL h ds) ∧ K (tup (ds.map (plain h))) h') := rfl
theorem retF_normal {rs : List ResI} {K : D → AHeap → Prop} {σ : Fr} {h : AHeap} : retF rs K .normal σ h = (σ.defs = [] ∧ ∃ ds, evRes σ h rs = some ds ∧ ∃ h', h'.sub (frzL h ds) ∧ K (tup (ds.map (plain h))) h') := rfl
theorem ACalls.runF [Globs] {P : Program} (hT : T.ok P) {f : FuncId} {s : Stm} {rs : List ResI} {m : Nat} {pl : Plan} {args : List D} {h : AHeap} {K : D → AHeap → Prop} (hs : stmOf P f pl = some (s, rs, m)) (hn : args.length ≤ m)
    (hv : vc T s (todo T (retF rs K) (fun _ _ _ => False) []) (fun _ _ _ => False) (argFr args) h) : ACalls P f args h fun o h' => ∃ d, o = .ret d ∧ K d h' := by
  refine ACalls.of_stm hT hs hn (vc_mono (fun e σ h k => ?_) (fun ds d h k => k.elim) hv)
  cases e with
  | exit i => exact k
  | _ => obtain ⟨a, ds, b, h', c, d⟩ := k; exact ⟨a, ds, b, .inr ⟨h', c, _, rfl, d⟩⟩

/-! ### What is handed over -/
theorem plain_undef : plain h (.undef) = .undef := rfl
theorem frz_undef : frz h (.undef) = h := rfl
theorem plain_bool {b : Bool} : plain h (.bool b) = .bool b := rfl
theorem frz_bool {b : Bool} : frz h (.bool b) = h := rfl
theorem plain_int {k : IntKind} {n : Int} : plain h (.int k n) = .int k n := rfl
theorem frz_int {k : IntKind} {n : Int} : frz h (.int k n) = h := rfl
theorem plain_float {k : FloatKind} {n : Nat} : plain h (.float k n) = .float k n := rfl
theorem frz_float {k : FloatKind} {n : Nat} : frz h (.float k n) = h := rfl
theorem plain_str {s : List UInt8} : plain h (.str s) = .str s := rfl
theorem frz_str {s : List UInt8} : frz h (.str s) = h := rfl
theorem plain_nilptr : plain h (.nilptr) = .nilptr := rfl
theorem frz_nilptr : frz h (.nilptr) = h := rfl
theorem plain_ptr {a b c : Nat} : plain h (.ptr a b c) = .ptr a b c := rfl
theorem frz_ptr {a b c : Nat} : frz h (.ptr a b c) = h := rfl
theorem plain_eptr {a : List D} {b : Nat} : plain h (.eptr a b) = .eptr a b := rfl
theorem frz_eptr {a : List D} {b : Nat} : frz h (.eptr a b) = h := rfl
theorem plain_rptr {a b c d : Nat} : plain h (.rptr a b c d) = .rptr a b c d := rfl
theorem frz_rptr {a b c d : Nat} : frz h (.rptr a b c d) = h := rfl
theorem plain_sl {xs : List (List D)} : plain h (.sl xs) = .sl xs := rfl
theorem frz_sl {xs : List (List D)} : frz h (.sl xs) = h := rfl
theorem plain_csl {a b c : Nat} : plain h (.csl a b c) = .csl a b c := rfl
theorem frz_csl {a b c : Nat} : frz h (.csl a b c) = h := rfl
theorem plain_tuple {ds : List D} : plain h (.tuple ds) = .tuple ds := rfl
theorem frz_tuple {ds : List D} : frz h (.tuple ds) = h := rfl
theorem plain_func {fn : Fn} {a b : List D} : plain h (.func fn a b) = .func fn a b := rfl
theorem frz_func {fn : Fn} {a b : List D} : frz h (.func fn a b) = h := rfl
theorem plain_nilfunc : plain h (.nilfunc) = .nilfunc := rfl
theorem frz_nilfunc : frz h (.nilfunc) = h := rfl
theorem plain_iface {t : TypeId} {d : D} : plain h (.iface t d) = .iface t d := rfl
theorem frz_iface {t : TypeId} {d : D} : frz h (.iface t d) = h := rfl
theorem plain_nilif : plain h (.nilif) = .nilif := rfl
theorem frz_nilif : frz h (.nilif) = h := rfl
theorem plain_map {a : Nat} : plain h (.map a) = .map a := rfl
theorem frz_map {a : Nat} : frz h (.map a) = h := rfl
theorem plain_nilmap : plain h (.nilmap) = .nilmap := rfl
theorem frz_nilmap : frz h (.nilmap) = h := rfl
theorem plain_nilsl : plain h .nilsl = .sl [] := rfl
theorem frz_nilsl : frz h .nilsl = h := rfl
def plR (ver off len : Nat) : Option AObj → D
  | some (.row sz ver' xs fz) => if ver = ver' ∧ off + len ≤ xs.length then .sl ((xs.drop off).take len) else .undef
  | _ => .undef
theorem plain_row {r ver off len : Nat} : plain h (.row r ver off len) = plR ver off len (h.f r) := by
  simp only [plain]
  generalize h.f r = o
  cases o with
  | none => rfl
  | some o => cases o <;> rfl
theorem plR_row {ver off len sz ver' : Nat} {xs : List (List D)} {fz : Bool} : plR ver off len (some (.row sz ver' xs fz)) = if ver = ver' ∧ off + len ≤ xs.length then .sl ((xs.drop off).take len) else .undef := rfl
def frzR (h : AHeap) (r : Nat) : Option AObj → AHeap
  | some (.row sz ver xs _) => h.set r (.row sz ver xs true)
  | _ => h
theorem frz_row {r ver off len : Nat} : frz h (.row r ver off len) = frzR h r (h.f r) := by
  show frzId h r = _
  unfold frzId
  cases e : h.f r with
  | none => rfl
  | some o => cases o <;> rfl
theorem frzR_row {r sz ver : Nat} {xs : List (List D)} {fz : Bool} : frzR h r (some (.row sz ver xs fz)) = h.set r (.row sz ver xs true) := rfl
theorem frzL_nil : frzL h [] = h := rfl
theorem frzL_cons {d : D} {ds : List D} : frzL h (d :: ds) = frzL (frz h d) ds := rfl
def plC (h : AHeap) : D → D
  | .nilsl => .sl []
  | .row r ver off len => plR ver off len (h.f r)
  | d => d
theorem plain_agg' {ds : List D} : plain h (.agg ds) = .agg (ds.map (plC h)) := by
  rw [plain_agg]
  congr 1
theorem plC_nilsl : plC h .nilsl = .sl [] := rfl
theorem plC_row {r ver off len : Nat} : plC h (.row r ver off len) = plR ver off len (h.f r) := rfl
theorem plC_undef : plC h (.undef) = .undef := rfl
theorem plC_bool {b : Bool} : plC h (.bool b) = .bool b := rfl
theorem plC_int {k : IntKind} {n : Int} : plC h (.int k n) = .int k n := rfl
theorem plC_float {k : FloatKind} {n : Nat} : plC h (.float k n) = .float k n := rfl
theorem plC_str {s : List UInt8} : plC h (.str s) = .str s := rfl
theorem plC_nilptr : plC h (.nilptr) = .nilptr := rfl
theorem plC_ptr {a b c : Nat} : plC h (.ptr a b c) = .ptr a b c := rfl
theorem plC_eptr {a : List D} {b : Nat} : plC h (.eptr a b) = .eptr a b := rfl
theorem plC_rptr {a b c d : Nat} : plC h (.rptr a b c d) = .rptr a b c d := rfl
theorem plC_sl {xs : List (List D)} : plC h (.sl xs) = .sl xs := rfl
theorem plC_csl {a b c : Nat} : plC h (.csl a b c) = .csl a b c := rfl
theorem plC_tuple {ds : List D} : plC h (.tuple ds) = .tuple ds := rfl
theorem plC_func {fn : Fn} {a b : List D} : plC h (.func fn a b) = .func fn a b := rfl
theorem plC_nilfunc : plC h (.nilfunc) = .nilfunc := rfl
theorem plC_iface {t : TypeId} {d : D} : plC h (.iface t d) = .iface t d := rfl
theorem plC_nilif : plC h (.nilif) = .nilif := rfl
theorem plC_map {a : Nat} : plC h (.map a) = .map a := rfl
theorem plC_nilmap : plC h (.nilmap) = .nilmap := rfl

/-! ### One heap within another one -/
def AHeap.subX (S : List Nat) (h h' : AHeap) : Prop := ∀ j o, j ∉ S → h.f j = some o → h'.f j = some o
theorem AHeap.sub_X {h h' : AHeap} (s : AHeap.subX [] h h') : h.sub h' := fun j o e => s j o (by simp) e
theorem AHeap.subX_refl {S : List Nat} {h : AHeap} : AHeap.subX S h h := fun _ _ _ e => e
theorem AHeap.subX_l {S : List Nat} {i : Nat} {o : AObj} {h h' : AHeap} (e : h'.f i = some o) (s : AHeap.subX (i :: S) h h') : AHeap.subX S (h.set i o) h' := fun j p hj hp => by
  simp only [AHeap.set_f] at hp
  split at hp
  · rename_i e1; cases hp; rw [e1]; exact e
  · rename_i e1; exact s j p (by simp [e1, hj]) hp
theorem AHeap.subX_r {S : List Nat} {i : Nat} {o : AObj} {h h' : AHeap} (hi : i ∈ S ∨ h.f i = none) (s : AHeap.subX S h h') : AHeap.subX S h (h'.set i o) := fun j p hj hp => by
  have : j ≠ i := fun e => by
    subst e
    rcases hi with hi | hi
    · exact hj hi
    · rw [hi] at hp; cases hp
  simp only [AHeap.set_f, if_neg this]
  exact s j p hj hp
theorem AHeap.subX_emp {S : List Nat} {h : AHeap} : AHeap.subX S .emp h := fun _ _ _ e => by cases e
theorem frza_nil : frz h (.agg []) = h := rfl
theorem frza_row {r v o l : Nat} {ds : List D} : frz h (.agg (.row r v o l :: ds)) = frz (frz h (.row r v o l)) (.agg ds) := rfl
theorem frza_undef {ds : List D} : frz h (.agg (.undef :: ds)) = frz h (.agg ds) := rfl
theorem frza_bool {b : Bool} {ds : List D} : frz h (.agg (.bool b :: ds)) = frz h (.agg ds) := rfl
theorem frza_int {k : IntKind} {n : Int} {ds : List D} : frz h (.agg (.int k n :: ds)) = frz h (.agg ds) := rfl
theorem frza_float {k : FloatKind} {n : Nat} {ds : List D} : frz h (.agg (.float k n :: ds)) = frz h (.agg ds) := rfl
theorem frza_str {s : List UInt8} {ds : List D} : frz h (.agg (.str s :: ds)) = frz h (.agg ds) := rfl
theorem frza_nilptr {ds : List D} : frz h (.agg (.nilptr :: ds)) = frz h (.agg ds) := rfl
theorem frza_ptr {a b c : Nat} {ds : List D} : frz h (.agg (.ptr a b c :: ds)) = frz h (.agg ds) := rfl
theorem frza_eptr {a : List D} {b : Nat} {ds : List D} : frz h (.agg (.eptr a b :: ds)) = frz h (.agg ds) := rfl
theorem frza_rptr {a b c d : Nat} {ds : List D} : frz h (.agg (.rptr a b c d :: ds)) = frz h (.agg ds) := rfl
theorem frza_nilsl {ds : List D} : frz h (.agg (.nilsl :: ds)) = frz h (.agg ds) := rfl
theorem frza_sl {xs : List (List D)} {ds : List D} : frz h (.agg (.sl xs :: ds)) = frz h (.agg ds) := rfl
theorem frza_csl {a b c : Nat} {ds : List D} : frz h (.agg (.csl a b c :: ds)) = frz h (.agg ds) := rfl
theorem frza_func {fn : Fn} {a b : List D} {ds : List D} : frz h (.agg (.func fn a b :: ds)) = frz h (.agg ds) := rfl
theorem frza_nilfunc {ds : List D} : frz h (.agg (.nilfunc :: ds)) = frz h (.agg ds) := rfl
theorem frza_iface {t : TypeId} {d : D} {ds : List D} : frz h (.agg (.iface t d :: ds)) = frz h (.agg ds) := rfl
theorem frza_nilif {ds : List D} : frz h (.agg (.nilif :: ds)) = frz h (.agg ds) := rfl
theorem frza_map {a : Nat} {ds : List D} : frz h (.agg (.map a :: ds)) = frz h (.agg ds) := rfl
theorem frza_nilmap {ds : List D} : frz h (.agg (.nilmap :: ds)) = frz h (.agg ds) := rfl
theorem i_str_one {x : Int} {K E : D → AHeap → Prop} : vcI T (.conv .bytesStr (.sl [[.int .u8 x]])) h K E = K (.str [UInt8.ofNat x.toNat]) h := by
  rw [i_bytesStr]
  simp [readEv, elemsOf, isByte, byteOf, ask]
end Go.Proofs.YtpagdhbmbnoddaaGreatDoor.Zz
/- Running code by laws, more: where a choice is already made, the other way is not looked at. -/
set_option linter.unusedVariables false
set_option linter.unusedSimpArgs false
namespace Go.Proofs.YtpagdhbmbnoddaaGreatDoor.Zz
variable {T : Tab} {K : Ex → Fr → AHeap → Prop} {E : Fr → D → AHeap → Prop} {σ : Fr} {h : AHeap}

theorem ite_imp {b : Bool} {A B : Prop} : ((b = true → A) ∧ (b = false → B)) = if b = true then A else B := by
  cases b <;> simp
theorem ite_imp' {b : Bool} {A B : Prop} : ((b = false → A) ∧ (b = true → B)) = if b = true then B else A := by
  cases b <;> simp
theorem choose_b {c : Opd} {a b : Stm} {k : List Item} {t : Bool} : pickC T K E c a b k σ h (.bool t) = if t = true then vc T a (todo T K E k) E (σ.mark c true) h else vc T b (todo T K E k) E (σ.mark c false) h := by
  rw [pickC_bool, ite_imp]
theorem guard_bt {i : Ins Opd} {d : Option Nat} {os : List OpI} {K : Fr → AHeap → Prop} {t : Nat} {p b : Bool} : guard T i d t true p os K E σ h (.bool b) = if b = true then vcOps T (⟨i, d, none, p⟩ :: os) K E (σ.put (some t) (.bool true)) h else vcOps T os K E ((σ.put (some t) (.bool false)).put d (.tuple [])) h := by
  rw [guard_t, ite_imp]
theorem guard_bf {i : Ins Opd} {d : Option Nat} {os : List OpI} {K : Fr → AHeap → Prop} {t : Nat} {p b : Bool} : guard T i d t false p os K E σ h (.bool b) = if b = true then vcOps T os K E ((σ.put (some t) (.bool true)).put d (.tuple [])) h else vcOps T (⟨i, d, none, p⟩ :: os) K E (σ.put (some t) (.bool false)) h := by
  rw [guard_f, ite_imp']

/-! ### Lists as slices -/
def encS (l : List (List UInt8)) : List (List D) := l.map fun s => [.str s]
def encI (l : List Int) : List (List D) := l.map fun c => [.int .i64 c]
theorem len_encS {l : List (List UInt8)} : (encS l).length = l.length := by simp [encS]
theorem len_encI {l : List Int} : (encI l).length = l.length := by simp [encI]
theorem encS_get {l : List (List UInt8)} {i : Nat} : (encS l)[i]? = l[i]?.map fun s => [.str s] := by simp [encS]
theorem encI_get {l : List Int} {i : Nat} : (encI l)[i]? = l[i]?.map fun c => [.int .i64 c] := by simp [encI]
theorem askE_encS {K : D → AHeap → Prop} {l : List (List UInt8)} {i : Int} : askE 1 K h (encS l) i = ((0 ≤ i ∧ i < l.length) ∧ ∀ x, l[i.toNat]? = some x → K (.eptr [.str x] 0) h) := askE_map fun _ => rfl
theorem askE_encI {K : D → AHeap → Prop} {l : List Int} {i : Int} : askE 1 K h (encI l) i = ((0 ≤ i ∧ i < l.length) ∧ ∀ x, l[i.toNat]? = some x → K (.eptr [.int .i64 x] 0) h) := askE_map fun _ => rfl
theorem encS_app {l : List (List UInt8)} {x : List UInt8} : encS l ++ [[.str x]] = encS (l ++ [x]) := by simp [encS]
theorem encI_app {l : List Int} {x : Int} : encI l ++ [[.int .i64 x]] = encI (l ++ [x]) := by simp [encI]
def decS : List (List D) → Option (List (List UInt8))
  | [] => some []
  | [.str s] :: l => (decS l).map (s :: ·)
  | _ => none
theorem decS_enc (l : List (List UInt8)) : decS (encS l) = some l := by
  induction l with
  | nil => rfl
  | cons s l ih => show (decS (encS l)).map _ = _; rw [ih]; rfl
theorem decS_some : ∀ {l : List (List D)} {x : List (List UInt8)}, decS l = some x → l = encS x
  | [], x, h => by cases h; rfl
  | [.str s] :: l, x, h => by
    simp only [decS, Option.map_eq_some_iff] at h
    obtain ⟨y, h1, rfl⟩ := h
    rw [decS_some h1]; rfl
def decI : List (List D) → Option (List Int)
  | [] => some []
  | [.int .i64 s] :: l => (decI l).map (s :: ·)
  | _ => none
theorem decI_enc (l : List Int) : decI (encI l) = some l := by
  induction l with
  | nil => rfl
  | cons s l ih => show (decI (encI l)).map _ = _; rw [ih]; rfl
theorem decI_some : ∀ {l : List (List D)} {x : List Int}, decI l = some x → l = encI x
  | [], x, h => by cases h; rfl
  | [.int .i64 s] :: l, x, h => by
    simp only [decI, Option.map_eq_some_iff] at h
    obtain ⟨y, h1, rfl⟩ := h
    rw [decI_some h1]; rfl
/-- A slice that begins as nil and grows. -/
def ownD (r n : Nat) : D := if n = 0 then .nilsl else .row r (n + 2) 0 n
def ownH (h : AHeap) (r sz : Nat) (xs : List (List D)) : AHeap := if xs = [] then h else h.set r (.row sz (xs.length + 2) xs false)
theorem ownD_zero {r : Nat} : ownD r 0 = .nilsl := rfl
theorem ownD_pos {r n : Nat} (h : n ≠ 0) : ownD r n = .row r (n + 2) 0 n := by simp [ownD, h]
theorem ownH_nil {h : AHeap} {r sz : Nat} : ownH h r sz [] = h := rfl
theorem ownH_pos {h : AHeap} {r sz : Nat} {xs : List (List D)} (e : xs ≠ []) : ownH h r sz xs = h.set r (.row sz (xs.length + 2) xs false) := by simp [ownH, e]
/-! ### Calls that the model answers at once -/
def extOk (P : Program) (f : FuncId) (n : String) : Bool :=
  match P.funcs[f]? with
  | some fn => fn.name == n && fn.origin == "" && fn.body.isNone
  | none => false
theorem XCall.of_row {P : Program} {f : FuncId} {n : String} {e : Array Value → Sem Value} {args : List D} {d : D} (h : extOk P f n = true) (h1 : Extern.allNextRows.lookup n = none) (h2 : Extern.allGenericRows.lookup n = none) (h3 : Extern.allTypedRows.lookup n = none)
    (h4 : Extern.allRows.lookup n = some e) (hn : (n == "runtime.NumGoroutine") = false)
    (he : ∀ (κ : Kap) (w : World) (vs : Array Value), RepL κ w vs.toList args → ∃ v, (e vs).run P w = .ok v w ∧ Rep κ w v d) : XCall P f args d := fun κ w vs hr => by
  unfold extOk at h
  split at h
  · rename_i fn hf
    simp only [Bool.and_eq_true, beq_iff_eq] at h
    obtain ⟨⟨k1, k2⟩, k3⟩ := h
    have o1 : Extern.allNextRows.lookup "" = none := by kernel_rfl
    have f1 : Extern.findNext fn = none := by simp only [Extern.findNext, k1, k2, h1, o1]; rfl
    have f2 : Extern.find fn = some e := by simp only [Extern.find, k1, h2, h3, h4]; rfl
    obtain ⟨v, a, b⟩ := he κ w vs hr
    exact ⟨v, by rw [run_callFunc_extern hf (by rw [k1]; exact hn) k3 f1 f2, a]; rfl, b⟩
  · cases h
theorem extRow_bits : Extern.allNextRows.lookup "math.Float64bits" = none ∧ Extern.allGenericRows.lookup "math.Float64bits" = none ∧ Extern.allTypedRows.lookup "math.Float64bits" = none ∧ Extern.allRows.lookup "math.Float64bits" = some Extern.MathFloatBits.float64bits :=
  ⟨by kernel_rfl, by kernel_rfl, by kernel_rfl, by kernel_rfl⟩
theorem extRow_from : Extern.allNextRows.lookup "math.Float64frombits" = none ∧ Extern.allGenericRows.lookup "math.Float64frombits" = none ∧ Extern.allTypedRows.lookup "math.Float64frombits" = none ∧ Extern.allRows.lookup "math.Float64frombits" = some Extern.MathFloatBits.float64frombits :=
  ⟨by kernel_rfl, by kernel_rfl, by kernel_rfl, by kernel_rfl⟩
theorem extRow_trunc : Extern.allNextRows.lookup "math.archTrunc" = none ∧ Extern.allGenericRows.lookup "math.archTrunc" = none ∧ Extern.allTypedRows.lookup "math.archTrunc" = none ∧ Extern.allRows.lookup "math.archTrunc" = some (Extern.MathFloor.toIntegral "math.archTrunc" .zero) :=
  ⟨by kernel_rfl, by kernel_rfl, by kernel_rfl, by kernel_rfl⟩
def xBits : List D → Option D
  | [.float .f64 b] => some (.int .u64 b)
  | _ => none
def xFrom : List D → Option D
  | [.int .u64 n] => some (.float .f64 n.toNat)
  | _ => none
/-- Of numbers alone, and of what is no number where its bits stay. -/
def xTrunc : List D → Option D
  | [.float .f64 x] => match FloatKind.f64.decode x with
    | .nan _ t => if FloatKind.f64.format.quiet t = t then some (.float .f64 x) else none
    | d => some (.float .f64 (FloatKind.f64.encode (d.integral .zero)))
  | _ => none
theorem xBits_ok {P : Program} {f : FuncId} (h : extOk P f "math.Float64bits" = true) (args : List D) (d : D) (e : xBits args = some d) : XCall P f args d := by
  unfold xBits at e
  split at e
  · cases e
    refine .of_row h extRow_bits.1 extRow_bits.2.1 extRow_bits.2.2.1 extRow_bits.2.2.2 (by decide) fun κ w vs hr => ?_
    obtain ⟨l⟩ := vs
    cases hr with
    | cons a t => cases t; cases a; exact ⟨_, rfl, .int _ _⟩
  · cases e
theorem xFrom_ok {P : Program} {f : FuncId} (h : extOk P f "math.Float64frombits" = true) (args : List D) (d : D) (e : xFrom args = some d) : XCall P f args d := by
  unfold xFrom at e
  split at e
  · cases e
    refine .of_row h extRow_from.1 extRow_from.2.1 extRow_from.2.2.1 extRow_from.2.2.2 (by decide) fun κ w vs hr => ?_
    obtain ⟨l⟩ := vs
    cases hr with
    | cons a t => cases t; cases a; exact ⟨_, rfl, .float _ _⟩
  · cases e
def trunc0 (x : Nat) : Sem Value :=
  match FloatKind.f64.decode x with
  | .nan s t =>
      if FloatKind.f64.format.quiet t = t then pure (.float .f64 x) else do
      let kept ← choose (.extern "math.Floor,Ceil,Trunc,RoundToEven.signallingNaN kept" 2)
      pure (.float .f64 (if kept == 1 then x else FloatKind.f64.encode (.nan s (FloatKind.f64.format.quiet t))))
  | d => pure (.float .f64 (FloatKind.f64.encode (d.integral .zero)))
theorem trunc0_run {P : Program} {κ : Kap} {w : World} {x : Nat} {d : D} (e : (match FloatKind.f64.decode x with
    | .nan _ t => if FloatKind.f64.format.quiet t = t then some (D.float .f64 x) else none
    | d => some (D.float .f64 (FloatKind.f64.encode (d.integral .zero)))) = some d) : ∃ v, (trunc0 x).run P w = .ok v w ∧ Rep κ w v d := by
  unfold trunc0
  cases hd : FloatKind.f64.decode x with
  | nan s t =>
    rw [hd] at e
    simp only at e ⊢
    split at e
    · rename_i hq; cases e
      exact ⟨_, by rw [if_pos hq]; rfl, .float _ _⟩
    · cases e
  | infinity s => rw [hd] at e; cases e; exact ⟨_, rfl, .float _ _⟩
  | number s m i => rw [hd] at e; cases e; exact ⟨_, rfl, .float _ _⟩
theorem xTrunc_ok {P : Program} {f : FuncId} (h : extOk P f "math.archTrunc" = true) (args : List D) (d : D) (e : xTrunc args = some d) : XCall P f args d := by
  unfold xTrunc at e
  split at e
  · refine .of_row h extRow_trunc.1 extRow_trunc.2.1 extRow_trunc.2.2.1 extRow_trunc.2.2.2 (by decide) fun κ w vs hr => ?_
    obtain ⟨l⟩ := vs
    cases hr with
    | cons a t =>
      cases t; cases a
      have e0 : Extern.MathFloor.toIntegral "math.archTrunc" .zero #[.float .f64 ‹Nat›] = trunc0 ‹Nat› := rfl
      rw [e0]
      exact trunc0_run e
  · cases e
/-! ### Floats -/
def fltK (o : Option Nat) (K : D → AHeap → Prop) (h : AHeap) : Prop :=
  match o with
  | some r => K (.float .f64 r) h
  | none => ∀ r, FloatKind.f64.format.order r r = none → K (.float .f64 r) h
theorem i_farith {op : BinOp} {a b : Nat} {K E : D → AHeap → Prop} : vcI T (.farith op (.float .f64 a) (.float .f64 b)) h K E = (isArithF op = true ∧ fltK (floatBits op .f64 a b) K h) := rfl
theorem fltK_some {r : Nat} {K : D → AHeap → Prop} : fltK (some r) K h = K (.float .f64 r) h := rfl
theorem fltK_none {K : D → AHeap → Prop} : fltK none K h = ∀ r, FloatKind.f64.format.order r r = none → K (.float .f64 r) h := rfl
theorem v_floatInt {k : IntKind} {b : Nat} : valP (.conv (.floatInt k) (.float .f64 b)) = (floatToIntVal .f64 b k).map (.int k) := rfl
theorem v_floatFloat {b : Nat} : valP (.conv .floatFloat (.float .f64 b)) = some (.float .f64 b) := rfl
end Go.Proofs.YtpagdhbmbnoddaaGreatDoor.Zz
