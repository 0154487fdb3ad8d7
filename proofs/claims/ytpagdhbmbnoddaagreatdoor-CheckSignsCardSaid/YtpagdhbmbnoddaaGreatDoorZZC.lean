/- Running code by laws: what is left to do is data, so that nothing is looked at before its turn. -/
import Derived.Test.YtpagdhbmbnoddaaGreatDoorZU
import Derived.Below
import Derived.ChangeSlices
import Derived.ChangeSame
import Derived.Deep.Strs
import Derived.LaidLaws
import Derived.Deep.DeepLaidRun
import Derived.Handed
import Derived.HandedShaped
import Derived.OpenShut
import Derived.MakeChecks
import Derived.Shelf.Vars
set_option linter.unnecessarySimpa false
set_option linter.unusedVariables false
set_option linter.unusedSimpArgs false
namespace Go.Proofs.YtpagdhbmbnoddaaGreatDoor.Zz
variable {T : Tab} {K : Ex → Fr → AHeap → Prop} {E : Fr → D → AHeap → Prop} {σ : Fr} {h : AHeap}
inductive Item where
 | stm (s : Stm)
 | blk (id : Nat)
 | lp (Q : Fr → AHeap → Prop)
def todo (T : Tab) (K : Ex → Fr → AHeap → Prop) (E : Fr → D → AHeap → Prop) : List Item → Ex → Fr → AHeap → Prop
 | [], e, σ, h => K e σ h
 | .stm s :: k, e, σ, h => match e with
  | .normal => vc T s (todo T K E k) E σ h
  | e => todo T K E k e σ h
 | .blk id :: k, e, σ, h => match e with
  | .exit i => if i = id then todo T K E k .normal σ h else todo T K E k (.exit i) σ h
  | e => todo T K E k e σ h
 | .lp Q :: k, e, σ, h => match e with
  | .normal => Q σ h
  | e => todo T K E k e σ h
theorem vc_todo {s : Stm} : vc T s K E σ h = vc T s (todo T K E []) E σ h := by
 congr 1
theorem run_skip {k : List Item} : vc T .skip (todo T K E k) E σ h = todo T K E k .normal σ h := rfl
theorem run_exit {id : Nat} {k : List Item} : vc T (.exit id) (todo T K E k) E σ h = todo T K E k (.exit id) σ h := rfl
theorem run_ret {k : List Item} : vc T .ret (todo T K E k) E σ h = todo T K E k .ret σ h := rfl
theorem run_seq {a b : Stm} {k : List Item} : vc T (.seq a b) (todo T K E k) E σ h = vc T a (todo T K E (.stm b :: k)) E σ h := by
 show vc T a _ E σ h = vc T a _ E σ h
 congr 1
theorem run_block {id : Nat} {s : Stm} {k : List Item} : vc T (.block id s) (todo T K E k) E σ h = vc T s (todo T K E (.blk id :: k)) E σ h := by
 show vc T s _ E σ h = vc T s _ E σ h
 congr 1
def pickC (T : Tab) (K : Ex → Fr → AHeap → Prop) (E : Fr → D → AHeap → Prop) (c : Opd) (a b : Stm) (k : List Item) (σ : Fr) (h : AHeap) : D → Prop
 | .bool t => (t = true → vc T a (todo T K E k) E (σ.mark c true) h) ∧ (t = false → vc T b (todo T K E k) E (σ.mark c false) h)
 | _ => False
theorem run_cond {c : Opd} {a b : Stm} {k : List Item} : vc T (.cond c a b) (todo T K E k) E σ h = pickC T K E c a b k σ h (σ.ev c) := by
 show (match σ.ev c with | .bool t => _ | _ => False) = _
 generalize σ.ev c = d
 cases d <;> rfl
theorem pickC_bool {c : Opd} {a b : Stm} {k : List Item} {t : Bool} : pickC T K E c a b k σ h (.bool t) = ((t = true → vc T a (todo T K E k) E (σ.mark c true) h) ∧ (t = false → vc T b (todo T K E k) E (σ.mark c false) h)) := rfl
theorem todo_stm {s : Stm} {k : List Item} : todo T K E (.stm s :: k) .normal σ h = vc T s (todo T K E k) E σ h := rfl
theorem todo_stm_ret {s : Stm} {k : List Item} : todo T K E (.stm s :: k) .ret σ h = todo T K E k .ret σ h := rfl
theorem todo_stm_exit {s : Stm} {i : Nat} {k : List Item} : todo T K E (.stm s :: k) (.exit i) σ h = todo T K E k (.exit i) σ h := rfl
theorem todo_blk {id : Nat} {k : List Item} : todo T K E (.blk id :: k) .normal σ h = todo T K E k .normal σ h := rfl
theorem todo_blk_ret {id : Nat} {k : List Item} : todo T K E (.blk id :: k) .ret σ h = todo T K E k .ret σ h := rfl
theorem todo_blk_exit {id i : Nat} {k : List Item} : todo T K E (.blk id :: k) (.exit i) σ h = if i = id then todo T K E k .normal σ h else todo T K E k (.exit i) σ h := rfl
theorem todo_lp {Q : Fr → AHeap → Prop} {k : List Item} : todo T K E (.lp Q :: k) .normal σ h = Q σ h := rfl
theorem todo_lp_ret {Q : Fr → AHeap → Prop} {k : List Item} : todo T K E (.lp Q :: k) .ret σ h = todo T K E k .ret σ h := rfl
theorem todo_lp_exit {Q : Fr → AHeap → Prop} {i : Nat} {k : List Item} : todo T K E (.lp Q :: k) (.exit i) σ h = todo T K E k (.exit i) σ h := rfl
theorem todo_nil {e : Ex} : todo T K E [] e σ h = K e σ h := rfl
def kont (T : Tab) (os : List OpI) (K : Fr → AHeap → Prop) (E : Fr → D → AHeap → Prop) (d : Option Nat) (σ : Fr) (x : D) (h : AHeap) : Prop := vcOps T os K E (σ.put d x) h
def ask : Option D → (D → AHeap → Prop) → AHeap → Prop
 | some x, K, h => K x h
 | none, _, _ => False
def askH : Option AHeap → (D → AHeap → Prop) → Prop
 | some h, K => K .undef h
 | none, _ => False
theorem ask_some {x : D} {K : D → AHeap → Prop} : ask (some x) K h = K x h := rfl
theorem ask_none {K : D → AHeap → Prop} : ask none K h = False := rfl
theorem ask_ite {c : Prop} [Decidable c] {o : Option D} {K : D → AHeap → Prop} : ask (if c then o else none) K h = (c ∧ ask o K h) := by
 split <;> simp_all [ask]
theorem askH_some {K : D → AHeap → Prop} : askH (some h) K = K .undef h := rfl
theorem askH_none {K : D → AHeap → Prop} : askH none K = False := rfl
theorem askH_ite {c : Prop} [Decidable c] {o : Option AHeap} {K : D → AHeap → Prop} : askH (if c then o else none) K = (c ∧ askH o K) := by
 split <;> simp_all [askH]
theorem ask_ex {o : Option D} {K : D → AHeap → Prop} : (∃ d, o = some d ∧ K d h) = ask o K h := by
 cases o <;> simp [ask]
theorem askH_ex {o : Option AHeap} {K : D → AHeap → Prop} : (∃ h', o = some h' ∧ K .undef h') = askH o K := by
 cases o <;> simp [askH]
section
variable {os : List OpI} {K : Fr → AHeap → Prop} {d : Option Nat} {x : D}
theorem kont_app : kont T os K E d σ x h = vcOps T os K E (σ.put d x) h := rfl
theorem op_p {i : Ins Opd} : vcOps T (⟨i, d, none, true⟩ :: os) K E σ h = ask (valP (i.map σ.ev)) (kont T os K E d σ) h := by
 rw [← ask_ex]; rfl
theorem op_n {i : Ins Opd} : vcOps T (⟨i, d, none, false⟩ :: os) K E σ h = vcI T (i.map σ.ev) h (kont T os K E d σ) (E σ) := rfl
def guard (T : Tab) (i : Ins Opd) (d : Option Nat) (t : Nat) (want p : Bool) (os : List OpI) (K : Fr → AHeap → Prop) (E : Fr → D → AHeap → Prop) (σ : Fr) (h : AHeap) : D → Prop
 | .bool b => (b = want → vcOps T (⟨i, d, none, p⟩ :: os) K E (σ.put (some t) (.bool want)) h) ∧ (b = !want → vcOps T os K E ((σ.put (some t) (.bool (!want))).put d (.tuple [])) h)
 | .tuple [] => vcOps T os K E (σ.put d (.tuple [])) h
 | _ => False
theorem op_g {i : Ins Opd} {t : Nat} {want p : Bool} : vcOps T (⟨i, d, some (t, want), p⟩ :: os) K E σ h = guard T i d t want p os K E σ h (σ.env t) := by
 simp only [vcOps, opA]
 cases e : σ.env t with
 | bool b =>
  simp only [guard]
  congr 1
  apply propext
  constructor
  ·intro h1 hb; subst hb; rw [Fr.put_same e] at h1 ⊢; exact h1 rfl
  ·intro h1 hb; subst hb; rw [Fr.put_same e] at h1 ⊢; exact h1 rfl
 | tuple ds => cases ds <;> rfl
 | _ => rfl
theorem guard_t {i : Ins Opd} {t : Nat} {p b : Bool} : guard T i d t true p os K E σ h (.bool b) = ((b = true → vcOps T (⟨i, d, none, p⟩ :: os) K E (σ.put (some t) (.bool true)) h) ∧ (b = false → vcOps T os K E ((σ.put (some t) (.bool false)).put d (.tuple [])) h)) := rfl
theorem guard_f {i : Ins Opd} {t : Nat} {p b : Bool} : guard T i d t false p os K E σ h (.bool b) = ((b = false → vcOps T (⟨i, d, none, p⟩ :: os) K E (σ.put (some t) (.bool false)) h) ∧ (b = true → vcOps T os K E ((σ.put (some t) (.bool true)).put d (.tuple [])) h)) := rfl
theorem guard_no {i : Ins Opd} {t : Nat} {want p : Bool} : guard T i d t want p os K E σ h (.tuple []) = vcOps T os K E (σ.put d (.tuple [])) h := rfl
end
theorem v_mov {x : D} : valP (.mov x) = some x := rfl
theorem v_pick {c : Bool} {a b : D} : valP (.pick (.bool c) a b) = some (bif c then a else b) := rfl
theorem v_build {zs : List D} {ps : List (Nat × Nat × D)} : valP (.build zs ps) = (buildD zs ps).map .agg := rfl
theorem v_bs {sz len : Nat} {zs : List D} {ps : List (Nat × D)} : valP (.buildSlice sz zs len ps false) = (buildRows sz (rowsOf sz zs len) ps).map fun xs => .sl (normX zs xs) := rfl
theorem v_nc_ptr {a b c : Nat} : valP (.nilCheck (.ptr a b c)) = some (.ptr a b c) := rfl
theorem v_nc_eptr {a : List D} {c : Nat} : valP (.nilCheck (.eptr a c)) = some (.eptr a c) := rfl
theorem v_nc_rptr {a b c d : Nat} : valP (.nilCheck (.rptr a b c d)) = some (.rptr a b c d) := rfl
theorem v_nc_func {k : FuncId} {a b : List D} : valP (.nilCheck (.func (.func k) a b)) = some (.func (.func k) a b) := rfl
theorem v_bin {op : BinOp} {x y : D} : valP (.bin op x y) = binEv op x y := rfl
theorem v_eql {t : ET} {neg : Bool} {x y : D} : valP (.eql t neg x y) = (eqEv t x y).map fun b => .bool (if neg then !b else b) := rfl
theorem v_un {op : UnOp} {x : D} : valP (.un op x) = unEv op x := rfl
theorem v_intInt {k k' : IntKind} {n : Int} : valP (.conv (.intInt k) (.int k' n)) = some (.int k (k.wrap n)) := rfl
theorem v_intFloat {k' : IntKind} {n : Int} : valP (.conv .intFloat (.int k' n)) = some (.float .f64 (FloatKind.f64.nearest n)) := rfl
theorem v_same {s : List UInt8} : valP (.conv .same (.str s)) = some (.str s) := rfl
theorem v_strBytes {s : List UInt8} : valP (.conv .strBytes (.str s)) = some (.sl (encB s)) := rfl
theorem v_slice {k : SK} {x : D} {lo hi mx : Option D} : valP (.slice k x lo hi mx) = sliceEv k x lo hi mx := rfl
theorem v_fa_ptr {o a b c : Nat} : valP (.fieldAddr o (.ptr a b c)) = some (.ptr a b (c + o)) := rfl
theorem v_fa_eptr {o c : Nat} {a : List D} : valP (.fieldAddr o (.eptr a c)) = some (.eptr a (c + o)) := rfl
theorem v_fa_rptr {o a b c d : Nat} : valP (.fieldAddr o (.rptr a b c d)) = some (.rptr a b c (d + o)) := rfl
theorem v_field {o : Nat} {n : Option Nat} {ds : List D} : valP (.field o n (.agg ds)) = partD ds o n := rfl
theorem v_ia_ptr {len sz a b c : Nat} {k : IntKind} {i : Int} : valP (.indexAddrA len sz (.ptr a b c) (.int k i)) = if 0 ≤ i ∧ i < len then some (.ptr a b (c + i.toNat * sz)) else none := rfl
theorem v_ia_eptr {len sz c : Nat} {a : List D} {k : IntKind} {i : Int} : valP (.indexAddrA len sz (.eptr a c) (.int k i)) = if 0 ≤ i ∧ i < len then some (.eptr a (c + i.toNat * sz)) else none := rfl
theorem v_ia_rptr {len sz a b c d : Nat} {k : IntKind} {i : Int} : valP (.indexAddrA len sz (.rptr a b c d) (.int k i)) = if 0 ≤ i ∧ i < len then some (.rptr a b c (d + i.toNat * sz)) else none := rfl
theorem v_indexA {len sz : Nat} {n : Option Nat} {ds : List D} {k : IntKind} {i : Int} : valP (.indexA len sz n (.agg ds) (.int k i)) = if 0 ≤ i ∧ i < len then partD ds (i.toNat * sz) n else none := rfl
theorem v_indexS {s : List UInt8} {k : IntKind} {i : Int} : valP (.indexS (.str s) (.int k i)) = if 0 ≤ i ∧ i < s.length then some (.int .u8 ((s.getD i.toNat 0).toNat : Int)) else none := ev_indexS s k i
theorem v_is_enc {s : List UInt8} {k : IntKind} {i : Int} : valP (.indexAddrS 1 (.sl (encB s)) (.int k i)) = if 0 ≤ i ∧ i < s.length then some (.eptr [.int .u8 ((s.getD i.toNat 0).toNat : Int)] 0) else none := by
 show pureEv (.indexAddrS 1 (.sl (encB s)) (.int k i)) = _
 rw [ev_indexAddrS, len_encB]
 by_cases h : 0 ≤ i ∧ i < s.length
 ·rw [if_pos h, getD_encB s _ (by omega), if_pos ⟨h, rfl⟩]
 ·rw [if_neg h, if_neg (fun x => h x.1)]
theorem v_is_csl {id off len : Nat} {k : IntKind} {i : Int} : valP (.indexAddrS 1 (.csl id off len) (.int k i)) = if 0 ≤ i ∧ i < len ∧ (1 : Nat) = 1 then some (.ptr id 1 (off + i.toNat)) else none := rfl
theorem v_extract {ds : List D} {i : Nat} : valP (.extract (.tuple ds) i) = ds[i]? := rfl
theorem v_mkIface {t : TypeId} {x : D} : valP (.mkIface t x) = some (.iface t x) := rfl
theorem v_mkFunc {fn : Fn} {a b : List D} : valP (.mkFunc fn a b) = some (.func fn a b) := rfl
theorem v_max {k k' : IntKind} {a b : Int} : valP (.minmax true (.int k a) (.int k' b)) = some (.int k (if a < b then b else a)) := rfl
theorem v_min {k k' : IntKind} {a b : Int} : valP (.minmax false (.int k a) (.int k' b)) = some (.int k (if b < a then b else a)) := rfl
theorem v_len0 {k : LK} {x : D} : valP (.len0 k x) = lenD k x := rfl
section
variable {K E : D → AHeap → Prop}
theorem i_alloc {ds : List D} : vcI T (.alloc ds) h K E = ∀ id, h.f id = none → K (.ptr id 1 0) (h.set id (.cells ds)) := rfl
theorem i_box {x : D} : vcI T (.box x) h K E = ((cellsD x).all cellOk = true ∧ ∀ id, h.f id = none → K (.ptr id 1 0) (h.set id (.cells (cellsD x)))) := rfl
theorem i_bs {sz len : Nat} {zs : List D} {ps : List (Nat × D)} : vcI T (.buildSlice sz zs len ps true) h K E = ∃ xs, buildRows sz (rowsOf sz zs len) ps = some xs ∧ ∀ id, h.f id = none → K (.row id (len + 2) 0 len) (h.set id (.row sz (len + 2) xs false)) := rfl
theorem i_load {n : Option Nat} {x : D} : vcI T (.load n x) h K E = ask (loadD h n x) K h := by rw [← ask_ex]; rfl
theorem i_loadOf {n : Option Nat} {x b : D} : vcI T (.loadOf n x b) h K E = ask (if objSame x b = true then loadD h n x else none) K h := by rw [← ask_ex]; rfl
theorem i_callNe {k : FuncId} {first cap args ys : List D} : vcI T (.callNe (.func (.func k) first cap) args ys) h K E = T.c k ((first ++ args ++ cap).map (plain h)) (frzL h (first ++ args ++ cap)) (fun d h' => (∀ y ∈ ys, keptAt h h' y) ∧ K d h') E := rfl
theorem i_callA {k : FuncId} : vcI T (.callA k) h K E = ∃ ds, T.a k = some ds ∧ ∀ id, h.f id = none → K (.ptr id 1 0) (h.set id (.cells ds)) := rfl
theorem i_store {n : Nat} {x v : D} : vcI T (.store n x v) h K E = askH (storeD h n x v) K := by rw [← askH_ex]; rfl
theorem i_storeNe {n : Nat} {x v : D} {ys : List D} : vcI T (.storeNe n x v ys) h K E = (ys.all (objNe x) = true ∧ askH (storeD h n x v) K) := by rw [← askH_ex]; rfl
theorem i_bytesStr {x : D} : vcI T (.conv .bytesStr x) h K E = ask (readEv h (.conv .bytesStr x)) K h := by rw [← ask_ex]; rfl
theorem i_slice_row {k : SK} {r ver off len : Nat} {lo hi mx : Option D} : vcI T (.slice k (.row r ver off len) lo hi mx) h K E = ask (readEv h (.slice k (.row r ver off len) lo hi mx)) K h := by rw [← ask_ex]; rfl
theorem i_slice_str {k : SK} {s : List UInt8} {lo hi mx : Option D} : vcI T (.slice k (.str s) lo hi mx) h K E = ask (sliceEv k (.str s) lo hi mx) K h := by rw [← ask_ex]; rfl
theorem i_slice_sl {k : SK} {s : List (List D)} {lo hi mx : Option D} : vcI T (.slice k (.sl s) lo hi mx) h K E = ask (sliceEv k (.sl s) lo hi mx) K h := by rw [← ask_ex]; rfl
theorem i_slice_ptr {k : SK} {a b c : Nat} {lo hi mx : Option D} : vcI T (.slice k (.ptr a b c) lo hi mx) h K E = ask (sliceEv k (.ptr a b c) lo hi mx) K h := by rw [← ask_ex]; rfl
theorem i_index_row {sz r ver off len : Nat} {i : D} : vcI T (.indexAddrS sz (.row r ver off len) i) h K E = ask (readEv h (.indexAddrS sz (.row r ver off len) i)) K h := by rw [← ask_ex]; rfl
theorem i_index_sl {sz : Nat} {xs : List (List D)} {i : D} : vcI T (.indexAddrS sz (.sl xs) i) h K E = ask (pureEv (.indexAddrS sz (.sl xs) i)) K h := by rw [← ask_ex]; rfl
def askE (sz : Nat) (K : D → AHeap → Prop) (h : AHeap) (xs : List (List D)) (i : Int) : Prop := (0 ≤ i ∧ i < xs.length) ∧ ∀ x, xs[i.toNat]? = some x → x.length = sz ∧ K (.eptr x 0) h
theorem i_index_any {sz : Nat} {xs : List (List D)} {k : IntKind} {i : Int} : vcI T (.indexAddrS sz (.sl xs) (.int k i)) h K E = askE sz K h xs i := by
 rw [i_index_sl]
 simp only [pureEv, askE]
 by_cases h0 : 0 ≤ i
 ·rw [if_pos h0]
  cases e : xs[i.toNat]? with
  | none =>
   have : ¬ i < (xs.length : Int) := by have := List.getElem?_eq_none_iff.1 e; omega
   simp [ask, this]
  | some x =>
   have : i.toNat < xs.length := (List.getElem?_eq_some_iff.1 e).1
   have h2 : i < (xs.length : Int) := by omega
   simp only [ask_ite, ask_some, h0, h2, and_self, true_and, Option.some.injEq, forall_eq']
 ·simp [h0, ask]
theorem askE_enc {s : List UInt8} {i : Int} : askE 1 K h (encB s) i = ((0 ≤ i ∧ i < s.length) ∧ K (.eptr [.int .u8 ((s.getD i.toNat 0).toNat : Int)] 0) h) := by
 simp only [askE, len_encB]
 by_cases h0 : 0 ≤ i ∧ i < s.length
 ·rw [enc_get s _ (by omega)]
  simp [h0]
 ·simp [h0]
theorem askE_map {α : Type} {sz : Nat} {f : α → List D} {l : List α} {i : Int} (hf : ∀ x, (f x).length = sz) : askE sz K h (l.map f) i = ((0 ≤ i ∧ i < l.length) ∧ ∀ x, l[i.toNat]? = some x → K (.eptr (f x) 0) h) := by
 simp only [askE, List.length_map, List.getElem?_map, Option.map_eq_some_iff]
 congr 1
 apply propext
 constructor
 ·intro q x hx; exact (q (f x) ⟨x, hx, rfl⟩).2
 ·rintro q _ ⟨x, hx, rfl⟩; exact ⟨hf x, q x hx⟩
theorem i_index_csl {sz id off len : Nat} {i : D} : vcI T (.indexAddrS sz (.csl id off len) i) h K E = ask (pureEv (.indexAddrS sz (.csl id off len) i)) K h := by rw [← ask_ex]; rfl
theorem i_len_str {s : List UInt8} : vcI T (.len .str (.str s)) h K E = (s.length ≤ 9223372036854775807 → K (.int .i64 (s.length : Int)) h) := rfl
theorem i_len_arr {n : Nat} {x : D} : vcI T (.len (.arr n) x) h K E = K (.int .i64 (n : Int)) h := rfl
theorem i_len_nil : vcI T (.len .sl .nilsl) h K E = K (.int .i64 0) h := rfl
theorem i_len_sl {xs : List (List D)} : vcI T (.len .sl (.sl xs)) h K E = (xs.length ≤ 9223372036854775807 → K (.int .i64 (xs.length : Int)) h) := rfl
theorem i_len_row {r ver off len : Nat} : vcI T (.len .sl (.row r ver off len)) h K E = (len ≤ 9223372036854775807 → K (.int .i64 (len : Int)) h) := rfl
theorem i_len_csl {id off len : Nat} : vcI T (.len .sl (.csl id off len)) h K E = (len ≤ 9223372036854775807 → K (.int .i64 (len : Int)) h) := rfl
theorem i_makeSlice {sz b : Nat} {zs : List D} {k k' : IntKind} {l c : Int} : vcI T (.makeSlice sz b zs (.int k l) (.int k' c)) h K E = (0 ≤ l ∧ l = c ∧ l * b ≤ 140737488355328 ∧ zs.length = sz ∧ 0 < sz ∧ ∀ id, h.f id = none → K (.row id (l.toNat + 2) 0 l.toNat) (h.set id (.row sz (l.toNat + 2) (rowsOf sz zs l.toNat) false))) := rfl
theorem i_call {k : FuncId} {first cap args : List D} : vcI T (.call (.func (.func k) first cap) args) h K E = T.c k ((first ++ args ++ cap).map (plain h)) (frzL h (first ++ args ++ cap)) K E := rfl
theorem i_qcall {k : FuncId} {first cap args : List D} : vcI T (.qcall (.func (.func k) first cap) args) h K E = ask (T.q k ((first ++ args ++ cap).map (plain h))) (fun d h' => K d (lentH d h h')) (frzL h (first ++ args ++ cap)) := by rw [← ask_ex]; rfl
theorem lent_bool {b : Bool} {h h' : AHeap} : lentH (.bool b) h h' = h := rfl
theorem lent_int {k : IntKind} {n : Int} {h h' : AHeap} : lentH (.int k n) h h' = h := rfl
theorem lent_float {k : FloatKind} {n : Nat} {h h' : AHeap} : lentH (.float k n) h h' = h := rfl
theorem lent_str {s : List UInt8} {h h' : AHeap} : lentH (.str s) h h' = h := rfl
theorem lent_agg {ds : List D} {h h' : AHeap} : lentH (.agg ds) h h' = h' := rfl
theorem lent_tuple {ds : List D} {h h' : AHeap} : lentH (.tuple ds) h h' = h' := rfl
theorem lent_sl {xs : List (List D)} {h h' : AHeap} : lentH (.sl xs) h h' = h' := rfl
theorem lent_func {f : Fn} {a b : List D} {h h' : AHeap} : lentH (.func f a b) h h' = h' := rfl
theorem lent_iface {t : TypeId} {d : D} {h h' : AHeap} : lentH (.iface t d) h h' = h' := rfl
theorem lent_nilif {h h' : AHeap} : lentH .nilif h h' = h' := rfl
theorem lent_same {d : D} {h : AHeap} : lentH d h h = h := by cases d <;> rfl
theorem i_panic {t : TypeId} {d : D} : vcI T (.panic (.iface t d)) h K E = E (.iface t d) h := rfl
def appK (sz bytes : Nat) (s : D) (h : AHeap) (K : D → AHeap → Prop) : Option (List (List D)) → Prop
 | none => False
 | some ys => (∀ y ∈ ys, y.length = sz ∧ y.all cellOk = true) ∧ 0 < bytes ∧
   (match s with
    | .nilsl => (ys = [] → K .nilsl h) ∧ ys.length * bytes ≤ 140737488355328 ∧ (ys ≠ [] → ∀ id, h.f id = none → K (.row id (ys.length + 2) 0 ys.length) (h.set id (.row sz (ys.length + 2) ys false)))
    | .row r ver off len => match h.f r with
     | some (.row sz' ver' xs false) => ver = ver' ∧ sz' = sz ∧ off = 0 ∧ len = xs.length ∧ (xs.length + ys.length) * bytes ≤ 140737488355328 ∧
       K (.row r (ver + ys.length) 0 (len + ys.length)) (h.set r (.row sz (ver + ys.length) (xs ++ ys) false))
     | _ => False
    | _ => False)
theorem i_append {sz b : Nat} {str : Bool} {s x : D} : vcI T (.append sz b str s x) h K E = appK sz b s h K (srcOf h str x) := by
 simp only [vcI]
 generalize srcOf h str x = o
 cases o with
 | none => simp [appK]
 | some ys => simp only [Option.some.injEq, exists_eq_left', appK]; rfl
theorem srcOf_str {b : List UInt8} : srcOf h true (.str b) = some (encB b) := rfl
theorem srcOf_sl {x : D} : srcOf h false x = elemsOf h x := rfl
theorem app_nil {sz b : Nat} {ys : List (List D)} : appK sz b .nilsl h K (some ys) = ((∀ y ∈ ys, y.length = sz ∧ y.all cellOk = true) ∧ 0 < b ∧ (ys = [] → K .nilsl h) ∧ ys.length * b ≤ 140737488355328 ∧ (ys ≠ [] → ∀ id, h.f id = none → K (.row id (ys.length + 2) 0 ys.length) (h.set id (.row sz (ys.length + 2) ys false)))) := rfl
def appR (sz b r ver off len : Nat) (ys : List (List D)) (h : AHeap) (K : D → AHeap → Prop) : Option AObj → Prop
 | some (.row sz' ver' xs false) => ver = ver' ∧ sz' = sz ∧ off = 0 ∧ len = xs.length ∧ (xs.length + ys.length) * b ≤ 140737488355328 ∧
       K (.row r (ver + ys.length) 0 (len + ys.length)) (h.set r (.row sz (ver + ys.length) (xs ++ ys) false))
 | _ => False
theorem app_row {sz b r ver off len : Nat} {ys : List (List D)} : appK sz b (.row r ver off len) h K (some ys) = ((∀ y ∈ ys, y.length = sz ∧ y.all cellOk = true) ∧ 0 < b ∧ appR sz b r ver off len ys h K (h.f r)) := by
 simp only [appK]
 congr 2
theorem appR_row {sz b r ver off len sz' ver' : Nat} {ys xs : List (List D)} : appR sz b r ver off len ys h K (some (.row sz' ver' xs false)) = (ver = ver' ∧ sz' = sz ∧ off = 0 ∧ len = xs.length ∧ (xs.length + ys.length) * b ≤ 140737488355328 ∧
       K (.row r (ver + ys.length) 0 (len + ys.length)) (h.set r (.row sz (ver + ys.length) (xs ++ ys) false))) := rfl
def appAK (sz bytes : Nat) (s : D) (h : AHeap) (K : D → AHeap → Prop) : Option (List (List D)) → Prop
 | none => False
 | some ys => (∀ y ∈ ys, y.length = sz ∧ y.all cellOk = true) ∧ 0 < bytes ∧ ys ≠ [] ∧
   (match s with
    | .nilsl => ys.length * bytes ≤ 140737488355328 ∧ ∀ id, h.f id = none → K (.row id 2 0 ys.length) (h.set id (.arow sz 2 ys []))
    | .row r ver off len => match h.f r with
     | some (.arow sz' ver' xs old) => ver = ver' ∧ sz' = sz ∧ off = 0 ∧ len = xs.length ∧ (xs.length + ys.length) * bytes ≤ 140737488355328 ∧
       K (.row r (ver + 1) 0 (len + ys.length)) (h.set r (.arow sz (ver + 1) (xs ++ ys) ((ver, len) :: old)))
     | _ => False
    | _ => False)
theorem i_appendA {sz b : Nat} {str : Bool} {s x : D} {zs : List D} : vcI T (.appendA sz b str s x zs) h K E = (zs.all (cellAt h) = true ∧ appAK sz b s h K (srcOf h str x)) := by
 simp only [vcI]
 generalize srcOf h str x = o
 cases o with
 | none => simp [appAK]
 | some ys => simp only [Option.some.injEq, exists_eq_left', appAK]; rfl
theorem appA_nil {sz b : Nat} {ys : List (List D)} : appAK sz b .nilsl h K (some ys) = ((∀ y ∈ ys, y.length = sz ∧ y.all cellOk = true) ∧ 0 < b ∧ ys ≠ [] ∧ ys.length * b ≤ 140737488355328 ∧ ∀ id, h.f id = none → K (.row id 2 0 ys.length) (h.set id (.arow sz 2 ys []))) := rfl
def appAR (sz b r ver off len : Nat) (ys : List (List D)) (h : AHeap) (K : D → AHeap → Prop) : Option AObj → Prop
 | some (.arow sz' ver' xs old) => ver = ver' ∧ sz' = sz ∧ off = 0 ∧ len = xs.length ∧ (xs.length + ys.length) * b ≤ 140737488355328 ∧
       K (.row r (ver + 1) 0 (len + ys.length)) (h.set r (.arow sz (ver + 1) (xs ++ ys) ((ver, len) :: old)))
 | _ => False
theorem appA_row {sz b r ver off len : Nat} {ys : List (List D)} : appAK sz b (.row r ver off len) h K (some ys) = ((∀ y ∈ ys, y.length = sz ∧ y.all cellOk = true) ∧ 0 < b ∧ ys ≠ [] ∧ appAR sz b r ver off len ys h K (h.f r)) := by
 simp only [appAK]
 congr 3
theorem appAR_row {sz b r ver off len sz' ver' : Nat} {ys xs : List (List D)} {old : List (Nat × Nat)} : appAR sz b r ver off len ys h K (some (.arow sz' ver' xs old)) = (ver = ver' ∧ sz' = sz ∧ off = 0 ∧ len = xs.length ∧ (xs.length + ys.length) * b ≤ 140737488355328 ∧
       K (.row r (ver + 1) 0 (len + ys.length)) (h.set r (.arow sz (ver + 1) (xs ++ ys) ((ver, len) :: old)))) := rfl
def stB (n : Nat) (x : D) (K : D → AHeap → Prop) : Option (D × AHeap) → Prop
 | some p => askH (storeD p.2 n x p.1) K
 | none => False
theorem i_storeB {n : Nat} {x v : D} : vcI T (.storeB n x v) h K E = stB n x K (cutV h v) := by
 simp only [vcI]
 generalize cutV h v = o
 cases o with
 | none => rfl
 | some p => simp only [stB]; rw [← askH_ex]
theorem stB_some {n : Nat} {x : D} {p : D × AHeap} : stB n x K (some p) = askH (storeD p.2 n x p.1) K := rfl
def Knows (v l cur n : Nat) (old : List (Nat × Nat)) : Prop := (v = cur ∧ l = n) ∨ (v, l) ∈ old
theorem cutV_two {d1 d2 e1 e2 : D} {h1 h2 : AHeap} (a : cutD h d1 = some (e1, h1)) (b : cutD h1 d2 = some (e2, h2)) : cutV h (.agg [d1, d2]) = some (.agg [e1, e2], h2) := by
 simp only [cutV, cutL, a, b]
theorem enc_cells (s : List UInt8) : (∀ y ∈ encB s, y.length = 1 ∧ y.all cellOk = true) = True := by simp [encB, cellOk]
end
def strRow (ver off len : Nat) : Option AObj → Option D
 | some (.row sz ver' xs fz) => if ver = ver' ∧ off + len ≤ xs.length then (if ((xs.drop off).take len).all isByte = true then some (.str (((xs.drop off).take len).map byteOf)) else none) else none
 | _ => none
theorem i_str_row {r ver off len : Nat} {K E : D → AHeap → Prop} : vcI T (.conv .bytesStr (.row r ver off len)) h K E = ask (strRow ver off len (h.f r)) K h := by
 rw [i_bytesStr]
 congr 1
 simp only [readEv, elemsOf]
 generalize h.f r = o
 cases o with
 | none => rfl
 | some o =>
  cases o with
  | row sz ver' xs fz =>
   simp only [strRow]
   by_cases hc : ver = ver' ∧ off + len ≤ xs.length
   ·rw [if_pos hc, if_pos hc]
   ·rw [if_neg hc, if_neg hc]
  | _ => rfl
theorem strRow_enc {ver off len sz ver' : Nat} {s : List UInt8} {fz : Bool} : strRow ver off len (some (.row sz ver' (encB s) fz)) = if ver = ver' ∧ off + len ≤ s.length then some (.str ((s.drop off).take len)) else none := by
 simp only [strRow, enc_drop, enc_take, enc_all, enc_dec, len_encB, if_true]
theorem i_str_sl {s : List UInt8} {K E : D → AHeap → Prop} : vcI T (.conv .bytesStr (.sl (encB s))) h K E = K (.str s) h := by
 rw [i_bytesStr]
 simp only [readEv, elemsOf, enc_all, enc_dec, if_true, ask]
theorem i_str_nil {K E : D → AHeap → Prop} : vcI T (.conv .bytesStr .nilsl) h K E = K (.str []) h := by
 rw [i_bytesStr]
 simp [readEv, elemsOf, ask]
theorem run_loop {s : Stm} {k : List Item} {X : Type} (F : X → List (Nat × D)) (H : X → AHeap) (μ : X → Nat) (I : X → Prop) (x0 : X) (h1 : I x0) (h2 : leL (F x0) σ) (h3 : (H x0).sub h)
  (h4 : ∀ (x : X) (Q : Fr → AHeap → Prop), I x → (∀ x' σ' h', I x' → leL (F x') σ' → (H x').sub h' → μ x' < μ x → Q σ' h') → vc T s (todo T K E (.lp Q :: k)) E (mkFr (F x)) (H x)) : vc T (.loop s) (todo T K E k) E σ h := by
 refine vc_for F H μ I x0 h1 h2 h3 fun x hx => ?_
 refine vc_mono (fun e σ' h' kk => ?_) (fun _ _ _ kk => kk) (h4 x (fun σ' h' => ∃ x', I x' ∧ leL (F x') σ' ∧ (H x').sub h' ∧ μ x' < μ x) hx fun x' σ' h' a b c d => ⟨x', a, b, c, d⟩)
 cases e <;> exact kk
theorem fresh_ite {α : Type} {i j : Nat} {x : α} {o : Option α} : ((if i = j then some x else o) = none) = (i ≠ j ∧ j ≠ i ∧ o = none) := by
 by_cases e : i = j
 ·subst e; simp
 ·have : j ≠ i := fun x => e x.symm
  simp [e, this]
theorem encB_nil {s : List UInt8} : (encB s = []) = (s = []) := by simp [encB]
theorem ask_ite_none {c : Prop} [Decidable c] {o : Option D} {K : D → AHeap → Prop} : ask (if c then none else o) K h = (¬ c ∧ ask o K h) := by
 split <;> simp_all [ask]
def panS (E : D → AHeap → Prop) : Fr → D → AHeap → Prop := fun σ d h => σ.defs = [] ∧ E d h
theorem Ed_panS {E : D → AHeap → Prop} {m : Nat} {env : Nat → D} {d : D} {h : AHeap} : Ed (panS E) m [] env d h = E d h := propext ⟨fun k => (k ⟨env, []⟩ rfl fun _ _ => rfl).2, fun k σ e _ => ⟨e, k⟩⟩
def leD (ds : List DDef) : List (Nat × D) → Fr → Prop
 | [], σ => σ.defs = ds
 | (j, d) :: l, σ => σ.env j = d ∧ leD ds l σ
theorem leD_nil {ds : List DDef} {σ : Fr} : leD ds [] σ = (σ.defs = ds) := rfl
theorem leD_cons {ds : List DDef} {j : Nat} {d : D} {l : List (Nat × D)} {σ : Fr} : leD ds ((j, d) :: l) σ = (σ.env j = d ∧ leD ds l σ) := rfl
theorem leD_le {ds : List DDef} : ∀ {l : List (Nat × D)} {σ : Fr}, leD ds l σ → (mkFrD l ds).le σ
 | [], σ, h => ⟨fun _ => .inl rfl, h.symm⟩
 | (j, d) :: l, σ, h => by
  have ih := leD_le h.2
  refine ⟨fun i => ?_, ih.2⟩
  simp only [mkFrD, lookupD]
  by_cases e : i = j
  ·subst e; rw [if_pos rfl]; exact .inr h.1.symm
  ·rw [if_neg e]; exact ih.1 i
theorem mkFrD_env (l : List (Nat × D)) (ds : List DDef) (i : Nat) : (mkFrD l ds).env i = lookupD l i := rfl
theorem mkFrD_defs (l : List (Nat × D)) (ds : List DDef) : (mkFrD l ds).defs = ds := rfl
def putOff (T : Tab) (K : Ex → Fr → AHeap → Prop) (E : Fr → D → AHeap → Prop) (k : List Item) (σ : Fr) (h : AHeap) (as : List D) : D → Prop
 | .func (.func f) first cap => todo T K E k .normal { σ with defs := ⟨.func f, cap, first ++ as⟩ :: σ.defs } h
 | _ => False
theorem run_defer {k : List Item} {f : Opd} {as : List Opd} : vc T (.defer f as) (todo T K E k) E σ h = putOff T K E k σ h (as.map σ.ev) (σ.ev f) := by
 show (match σ.ev f with | .func (.func f) first cap => _ | _ => False) = _
 generalize σ.ev f = d
 cases d with
 | func fn first cap => cases fn <;> rfl
 | _ => rfl
theorem putOff_func {k : List Item} {f : FuncId} {first cap as : List D} : putOff T K E k σ h as (.func (.func f) first cap) = todo T K E k .normal { σ with defs := ⟨.func f, cap, first ++ as⟩ :: σ.defs } h := rfl
theorem Fr.env_defs {σ : Fr} {ds : List DDef} {i : Nat} : ({ σ with defs := ds } : Fr).env i = σ.env i := rfl
theorem Fr.defs_defs {σ : Fr} {ds : List DDef} : ({ σ with defs := ds } : Fr).defs = ds := rfl
theorem run_loopD {s : Stm} {k : List Item} {X : Type} (ds : List DDef) (F : X → List (Nat × D)) (H : X → AHeap) (μ : X → Nat) (I : X → Prop) (x0 : X) (h1 : I x0) (h2 : leD ds (F x0) σ) (h3 : (H x0).sub h)
  (h4 : ∀ (x : X) (Q : Fr → AHeap → Prop), I x → (∀ x' σ' h', I x' → leD ds (F x') σ' → (H x').sub h' → μ x' < μ x → Q σ' h') → vc T s (todo T K E (.lp Q :: k)) E (mkFrD (F x) ds) (H x)) : vc T (.loop s) (todo T K E k) E σ h := by
 refine ⟨X, fun x => mkFrD (F x) ds, H, μ, I, x0, h1, leD_le h2, h3, fun x hx => ?_⟩
 refine vc_mono (fun e σ' h' kk => ?_) (fun _ _ _ kk => kk) (h4 x (fun σ' h' => ∃ x', I x' ∧ leD ds (F x') σ' ∧ (H x').sub h' ∧ μ x' < μ x) hx fun x' σ' h' a b c d => ⟨x', a, b, c, d⟩)
 cases e with
 | normal => obtain ⟨x', a, b, c⟩ := kk; exact ⟨x', a, leD_le b, c⟩
 | _ => exact kk
theorem ACalls.run [Globs] {P : Program} (hT : T.ok P) {f : FuncId} {s : Stm} {rs : List ResI} {m : Nat} {pl : Plan} {args : List D} {h : AHeap} {K : D → AHeap → Prop} (hs : stmOf P f pl = some (s, rs, m)) (hn : args.length ≤ m)
  (hv : ∀ (E : Fr → D → AHeap → Prop), vc T s (todo T (retS rs K) E []) E (argFr args) h) : ACalls P f args h fun o h' => ∃ d, o = .ret d ∧ K d h' :=
 ACalls.of_K hT hs hn (hv _)
theorem PCall.run [Globs] {P : Program} (hT : T.ok P) {f : FuncId} {s : Stm} {rs : List ResI} {m : Nat} {pl : Plan} {args : List D} {d : D} (hs : stmOf P f pl = some (s, rs, m)) (hn : args.length ≤ m)
  (hv : ∀ (E : Fr → D → AHeap → Prop), vc T s (todo T (retK rs fun o _ => o = .ret d) E []) E (argFr args) .emp) : PCall P f args d :=
 ACalls.of_stm hT hs hn (hv _)
def retF (rs : List ResI) (K : D → AHeap → Prop) (e : Ex) (σ : Fr) (h : AHeap) : Prop :=
 match e with
 | .exit _ => False
 | _ => σ.defs = [] ∧ ∃ ds, evRes σ h rs = some ds ∧ ∃ h', h'.sub (frzL h ds) ∧ K (tup (ds.map (plain h))) h'
theorem retF_ret {rs : List ResI} {K : D → AHeap → Prop} {σ : Fr} {h : AHeap} : retF rs K .ret σ h = (σ.defs = [] ∧ ∃ ds, evRes σ h rs = some ds ∧ ∃ h', h'.sub (frzL h ds) ∧ K (tup (ds.map (plain h))) h') := rfl
theorem retF_normal {rs : List ResI} {K : D → AHeap → Prop} {σ : Fr} {h : AHeap} : retF rs K .normal σ h = (σ.defs = [] ∧ ∃ ds, evRes σ h rs = some ds ∧ ∃ h', h'.sub (frzL h ds) ∧ K (tup (ds.map (plain h))) h') := rfl
theorem ACalls.runF [Globs] {P : Program} (hT : T.ok P) {f : FuncId} {s : Stm} {rs : List ResI} {m : Nat} {pl : Plan} {args : List D} {h : AHeap} {K : D → AHeap → Prop} (hs : stmOf P f pl = some (s, rs, m)) (hn : args.length ≤ m)
  (hv : vc T s (todo T (retF rs K) (fun _ _ _ => False) []) (fun _ _ _ => False) (argFr args) h) : ACalls P f args h fun o h' => ∃ d, o = .ret d ∧ K d h' := by
 refine ACalls.of_stm hT hs hn (vc_mono (fun e σ h k => ?_) (fun ds d h k => k.elim) hv)
 cases e with
 | exit i => exact k
 | _ => obtain ⟨a, ds, b, h', c, d⟩ := k; exact ⟨a, ds, b, .inr ⟨h', c, _, rfl, d⟩⟩
theorem plain_undef : plain h (.undef) = .undef := rfl
theorem frz_undef : frz h (.undef) = h := rfl
theorem plain_bool {b : Bool} : plain h (.bool b) = .bool b := rfl
theorem frz_bool {b : Bool} : frz h (.bool b) = h := rfl
theorem plain_int {k : IntKind} {n : Int} : plain h (.int k n) = .int k n := rfl
theorem frz_int {k : IntKind} {n : Int} : frz h (.int k n) = h := rfl
theorem plain_float {k : FloatKind} {n : Nat} : plain h (.float k n) = .float k n := rfl
theorem frz_float {k : FloatKind} {n : Nat} : frz h (.float k n) = h := rfl
theorem plain_str {s : List UInt8} : plain h (.str s) = .str s := rfl
theorem frz_str {s : List UInt8} : frz h (.str s) = h := rfl
theorem plain_nilptr : plain h (.nilptr) = .nilptr := rfl
theorem frz_nilptr : frz h (.nilptr) = h := rfl
theorem plain_ptr {a b c : Nat} : plain h (.ptr a b c) = .ptr a b c := rfl
theorem frz_ptr {a b c : Nat} : frz h (.ptr a b c) = h := rfl
theorem plain_eptr {a : List D} {b : Nat} : plain h (.eptr a b) = .eptr a b := rfl
theorem frz_eptr {a : List D} {b : Nat} : frz h (.eptr a b) = h := rfl
theorem plain_rptr {a b c d : Nat} : plain h (.rptr a b c d) = .rptr a b c d := rfl
theorem frz_rptr {a b c d : Nat} : frz h (.rptr a b c d) = h := rfl
theorem plain_sl {xs : List (List D)} : plain h (.sl xs) = .sl xs := rfl
theorem frz_sl {xs : List (List D)} : frz h (.sl xs) = h := rfl
theorem plain_csl {a b c : Nat} : plain h (.csl a b c) = .csl a b c := rfl
theorem frz_csl {a b c : Nat} : frz h (.csl a b c) = h := rfl
theorem plain_tuple {ds : List D} : plain h (.tuple ds) = .tuple ds := rfl
theorem frz_tuple {ds : List D} : frz h (.tuple ds) = h := rfl
theorem plain_func {fn : Fn} {a b : List D} : plain h (.func fn a b) = .func fn a b := rfl
theorem frz_func {fn : Fn} {a b : List D} : frz h (.func fn a b) = h := rfl
theorem plain_nilfunc : plain h (.nilfunc) = .nilfunc := rfl
theorem frz_nilfunc : frz h (.nilfunc) = h := rfl
theorem plain_iface {t : TypeId} {d : D} : plain h (.iface t d) = .iface t d := rfl
theorem frz_iface {t : TypeId} {d : D} : frz h (.iface t d) = h := rfl
theorem plain_nilif : plain h (.nilif) = .nilif := rfl
theorem frz_nilif : frz h (.nilif) = h := rfl
theorem plain_map {a : Nat} : plain h (.map a) = .map a := rfl
theorem frz_map {a : Nat} : frz h (.map a) = h := rfl
theorem plain_nilmap : plain h (.nilmap) = .nilmap := rfl
theorem frz_nilmap : frz h (.nilmap) = h := rfl
theorem plain_nilsl : plain h .nilsl = .sl [] := rfl
theorem frz_nilsl : frz h .nilsl = h := rfl
def plR (ver off len : Nat) : Option AObj → D
 | some (.row sz ver' xs fz) => if ver = ver' ∧ off + len ≤ xs.length then .sl ((xs.drop off).take len) else .undef
 | _ => .undef
theorem plain_row {r ver off len : Nat} : plain h (.row r ver off len) = plR ver off len (h.f r) := by
 simp only [plain]
 generalize h.f r = o
 cases o with
 | none => rfl
 | some o => cases o <;> rfl
theorem plR_row {ver off len sz ver' : Nat} {xs : List (List D)} {fz : Bool} : plR ver off len (some (.row sz ver' xs fz)) = if ver = ver' ∧ off + len ≤ xs.length then .sl ((xs.drop off).take len) else .undef := rfl
def frzR (h : AHeap) (r : Nat) : Option AObj → AHeap
 | some (.row sz ver xs _) => h.set r (.row sz ver xs true)
 | _ => h
theorem frz_row {r ver off len : Nat} : frz h (.row r ver off len) = frzR h r (h.f r) := by
 show frzId h r = _
 unfold frzId
 cases e : h.f r with
 | none => rfl
 | some o => cases o <;> rfl
theorem frzR_row {r sz ver : Nat} {xs : List (List D)} {fz : Bool} : frzR h r (some (.row sz ver xs fz)) = h.set r (.row sz ver xs true) := rfl
theorem frzL_nil : frzL h [] = h := rfl
theorem frzL_cons {d : D} {ds : List D} : frzL h (d :: ds) = frzL (frz h d) ds := rfl
def plC (h : AHeap) : D → D
 | .nilsl => .sl []
 | .row r ver off len => plR ver off len (h.f r)
 | d => d
theorem plain_agg' {ds : List D} : plain h (.agg ds) = .agg (ds.map (plC h)) := by
 rw [plain_agg]
 congr 1
theorem plC_nilsl : plC h .nilsl = .sl [] := rfl
theorem plC_row {r ver off len : Nat} : plC h (.row r ver off len) = plR ver off len (h.f r) := rfl
theorem plC_undef : plC h (.undef) = .undef := rfl
theorem plC_bool {b : Bool} : plC h (.bool b) = .bool b := rfl
theorem plC_int {k : IntKind} {n : Int} : plC h (.int k n) = .int k n := rfl
theorem plC_float {k : FloatKind} {n : Nat} : plC h (.float k n) = .float k n := rfl
theorem plC_str {s : List UInt8} : plC h (.str s) = .str s := rfl
theorem plC_nilptr : plC h (.nilptr) = .nilptr := rfl
theorem plC_ptr {a b c : Nat} : plC h (.ptr a b c) = .ptr a b c := rfl
theorem plC_eptr {a : List D} {b : Nat} : plC h (.eptr a b) = .eptr a b := rfl
theorem plC_rptr {a b c d : Nat} : plC h (.rptr a b c d) = .rptr a b c d := rfl
theorem plC_sl {xs : List (List D)} : plC h (.sl xs) = .sl xs := rfl
theorem plC_csl {a b c : Nat} : plC h (.csl a b c) = .csl a b c := rfl
theorem plC_tuple {ds : List D} : plC h (.tuple ds) = .tuple ds := rfl
theorem plC_func {fn : Fn} {a b : List D} : plC h (.func fn a b) = .func fn a b := rfl
theorem plC_nilfunc : plC h (.nilfunc) = .nilfunc := rfl
theorem plC_iface {t : TypeId} {d : D} : plC h (.iface t d) = .iface t d := rfl
theorem plC_nilif : plC h (.nilif) = .nilif := rfl
theorem plC_map {a : Nat} : plC h (.map a) = .map a := rfl
theorem plC_nilmap : plC h (.nilmap) = .nilmap := rfl
def AHeap.subX (S : List Nat) (h h' : AHeap) : Prop := ∀ j o, j ∉ S → h.f j = some o → h'.f j = some o
theorem AHeap.sub_X {h h' : AHeap} (s : AHeap.subX [] h h') : h.sub h' := fun j o e => s j o (by simp) e
theorem AHeap.subX_refl {S : List Nat} {h : AHeap} : AHeap.subX S h h := fun _ _ _ e => e
theorem AHeap.subX_l {S : List Nat} {i : Nat} {o : AObj} {h h' : AHeap} (e : h'.f i = some o) (s : AHeap.subX (i :: S) h h') : AHeap.subX S (h.set i o) h' := fun j p hj hp => by
 simp only [AHeap.set_f] at hp
 split at hp
 ·rename_i e1; cases hp; rw [e1]; exact e
 ·rename_i e1; exact s j p (by simp [e1, hj]) hp
theorem AHeap.subX_r {S : List Nat} {i : Nat} {o : AObj} {h h' : AHeap} (hi : i ∈ S ∨ h.f i = none) (s : AHeap.subX S h h') : AHeap.subX S h (h'.set i o) := fun j p hj hp => by
 have : j ≠ i := fun e => by
  subst e
  rcases hi with hi | hi
  ·exact hj hi
  ·rw [hi] at hp; cases hp
 simp only [AHeap.set_f, if_neg this]
 exact s j p hj hp
theorem AHeap.subX_emp {S : List Nat} {h : AHeap} : AHeap.subX S .emp h := fun _ _ _ e => by cases e
theorem frza_nil : frz h (.agg []) = h := rfl
theorem frza_row {r v o l : Nat} {ds : List D} : frz h (.agg (.row r v o l :: ds)) = frz (frz h (.row r v o l)) (.agg ds) := rfl
theorem frza_undef {ds : List D} : frz h (.agg (.undef :: ds)) = frz h (.agg ds) := rfl
theorem frza_bool {b : Bool} {ds : List D} : frz h (.agg (.bool b :: ds)) = frz h (.agg ds) := rfl
theorem frza_int {k : IntKind} {n : Int} {ds : List D} : frz h (.agg (.int k n :: ds)) = frz h (.agg ds) := rfl
theorem frza_float {k : FloatKind} {n : Nat} {ds : List D} : frz h (.agg (.float k n :: ds)) = frz h (.agg ds) := rfl
theorem frza_str {s : List UInt8} {ds : List D} : frz h (.agg (.str s :: ds)) = frz h (.agg ds) := rfl
theorem frza_nilptr {ds : List D} : frz h (.agg (.nilptr :: ds)) = frz h (.agg ds) := rfl
theorem frza_ptr {a b c : Nat} {ds : List D} : frz h (.agg (.ptr a b c :: ds)) = frz h (.agg ds) := rfl
theorem frza_eptr {a : List D} {b : Nat} {ds : List D} : frz h (.agg (.eptr a b :: ds)) = frz h (.agg ds) := rfl
theorem frza_rptr {a b c d : Nat} {ds : List D} : frz h (.agg (.rptr a b c d :: ds)) = frz h (.agg ds) := rfl
theorem frza_nilsl {ds : List D} : frz h (.agg (.nilsl :: ds)) = frz h (.agg ds) := rfl
theorem frza_sl {xs : List (List D)} {ds : List D} : frz h (.agg (.sl xs :: ds)) = frz h (.agg ds) := rfl
theorem frza_csl {a b c : Nat} {ds : List D} : frz h (.agg (.csl a b c :: ds)) = frz h (.agg ds) := rfl
theorem frza_func {fn : Fn} {a b : List D} {ds : List D} : frz h (.agg (.func fn a b :: ds)) = frz h (.agg ds) := rfl
theorem frza_nilfunc {ds : List D} : frz h (.agg (.nilfunc :: ds)) = frz h (.agg ds) := rfl
theorem frza_iface {t : TypeId} {d : D} {ds : List D} : frz h (.agg (.iface t d :: ds)) = frz h (.agg ds) := rfl
theorem frza_nilif {ds : List D} : frz h (.agg (.nilif :: ds)) = frz h (.agg ds) := rfl
theorem frza_map {a : Nat} {ds : List D} : frz h (.agg (.map a :: ds)) = frz h (.agg ds) := rfl
theorem frza_nilmap {ds : List D} : frz h (.agg (.nilmap :: ds)) = frz h (.agg ds) := rfl
theorem i_str_one {x : Int} {K E : D → AHeap → Prop} : vcI T (.conv .bytesStr (.sl [[.int .u8 x]])) h K E = K (.str [UInt8.ofNat x.toNat]) h := by
 rw [i_bytesStr]
 simp [readEv, elemsOf, isByte, byteOf, ask]
end Go.Proofs.YtpagdhbmbnoddaaGreatDoor.Zz
namespace Go.Proofs.YtpagdhbmbnoddaaGreatDoor.Zz
open Go.RowKit
def old (w : World) : Kap := { imm := fun b => b < w.heap.size, loc := fun _ => none }
theorem old_inv [Globs] (w : World) (hg : GlobRep (old w) w) : Inv (old w) .emp w :=
  ⟨fun b h => h, fun i p h => (by cases h), ⟨0, fun _ _ => rfl⟩, fun i o h => (by cases h), fun i j oi oj pi pj b h => (by cases h), hg⟩
theorem law_of [Globs] {P : Program} {f : FuncId} {args : List D} (c : PCall P f args (.bool true)) {vs : Array Value} {w : World} (hg : GlobRep (old w) w) (hr : RepL (old w) w vs.toList args) :
    Calls P f vs w fun e w' => e = .returned (.bool true) ∧ Below w.heap.size w w' :=
  (c.2 (old w) w vs (old_inv w hg) hr).mono fun e w' ⟨o, h', κ', e1, r, i, ev⟩ => by
    subst e1
    cases r with
    | ret r =>
      cases r
      refine ⟨rfl, ev.os, ev.tape, ev.output, ev.size, fun k hk => ev.blocks k hk fun ho => ?_⟩
      obtain ⟨id, o, p, h, _⟩ := ho
      simp at h
theorem rep_string {κ : Kap} {w : World} {s : ByteArray} (h : s.size ≤ maxLen) : Rep κ w (.string s) (.str s.data.toList) := by
  have := Rep.str (κ := κ) (w := w) s.data.toList (by
    have : s.data.toList.length = s.size := by simp
    rw [this]
    have h2 : maxLen ≤ 9223372036854775807 := by decide
    omega)
  simpa using this
theorem cell_lt {w : World} {b o : Nat} {v : Value} (h : w.cell? ⟨b, o, none⟩ = some v) : b < w.heap.size := by
  simp only [World.cell?] at h
  cases e : w.heap[b]? with
  | none => simp [e] at h
  | some x => exact (Array.getElem?_eq_some_iff.1 e).1
theorem rep_slice1 {w : World} {a : Addr} {len cap : Nat} (f : Nat → Value) (g : Nat → D) (hl : len ≤ cap) (hm : cap ≤ maxLen) (hc : ∀ i, i < len → w.cell? (a.add i) = some (f i)) (hr : ∀ i, i < len → Rep (old w) w (f i) (g i)) :
    Rep (old w) w (.slice (some a) len cap) (.sl ((List.range len).map fun i => [g i])) := by
  by_cases h0 : len = 0
  · subst h0; exact .slnil (fun h => by cases h)
  · obtain ⟨b, o, sp⟩ := a
    have hs : sp = none := by simpa [Addr.add] using World.cell?_spot (hc 0 (by omega))
    subst hs
    have h2 : maxLen ≤ 9223372036854775807 := by decide
    have get : ∀ {i : Nat} {x : List D} {j : Nat} {d : D}, ((List.range len).map fun i => [g i])[i]? = some x → x[j]? = some d → i < len ∧ j = 0 ∧ d = g i := fun {i x j d} h1 h3 => by
      rw [List.getElem?_map] at h1
      by_cases hi : i < len
      · rw [List.getElem?_range hi] at h1
        simp only [Option.map_some, Option.some.injEq] at h1
        subst h1
        cases j with
        | zero => simp at h3; exact ⟨hi, rfl, h3.symm⟩
        | succ j => simp at h3
      · rw [List.getElem?_eq_none (by simp; omega)] at h1; cases h1
    have hcell : ∀ i, i < len → w.cell? ⟨b, o + i, none⟩ = some (f i) := fun i hi => by
      have := hc i hi
      unfold Addr.add at this
      split at this
      · rename_i e; subst e; simpa using this
      · simpa using this
    refine Rep.sl_of (sz := 1) (by simp) (fun i _ => f i) (by simp; omega) (by simp; omega) (by simp) (fun i x j d h1 h3 => ?_) (fun i x j d h1 h3 => ?_)
    · obtain ⟨hi, rfl, rfl⟩ := get h1 h3
      have := hcell i hi
      exact ⟨cell_lt this, by simpa using this⟩
    · obtain ⟨hi, rfl, rfl⟩ := get h1 h3
      exact hr i hi
section
variable {H : Type} {enc : TypeId × Value → H} {P : Program} {w : World} {spare : Nat → Bool} {held : Bool}
theorem ints_rep {t e : TypeId} {k : IntKind} {a : Option Addr} {len cap : Nat} {d : DataW H} {ps : List MemPlace} (ht : P.underlying t = some (.slice e)) (he : P.underlying e = some (.int k)) (hc : P.cellsOf e = 1)
    (h : DataW.Trod enc P w 0 spare held t (.slice a len cap) d ps) : ∃ l : List Int, (∀ n ∈ l, (Lit.int k n).wf = true) ∧ Rep (old w) w (.slice a len cap) (.sl (l.map fun n => [.int k n])) := by
  obtain ⟨fuel, hf⟩ := h
  rcases Go.ChangeShapes.open_ints ht he hc hf with ⟨hcs, _⟩ | ⟨x, l, c, zs, hcs, _, hl, hm, hz, _, hcell, hwz⟩
  · simp [Value.cells] at hcs
    obtain ⟨rfl, rfl, rfl⟩ := hcs
    exact ⟨[], by simp, .slnil (fun _ => rfl)⟩
  · simp [Value.cells] at hcs
    obtain ⟨rfl, rfl, rfl⟩ := hcs
    have hlz : len ≤ zs.length := by rw [hz]; split <;> omega
    refine ⟨(List.range len).map fun i => zs.getD i 0, ?_, ?_⟩
    · intro n hn
      obtain ⟨i, hi, rfl⟩ := List.mem_map.1 hn
      have hi := List.mem_range.1 hi
      apply hwz
      rw [List.getD_eq_getElem?_getD, List.getElem?_eq_getElem (by omega)]
      exact List.getElem_mem _
    · rw [List.map_map]
      exact rep_slice1 (fun i => .int k (zs.getD i 0)) (fun i => .int k (zs.getD i 0)) hl hm (fun i hi => hcell i (by omega)) (fun i hi => .int k _)
theorem strs_rep {t e : TypeId} {a : Option Addr} {len cap : Nat} {d : DataW H} {ps : List MemPlace} (ht : P.underlying t = some (.slice e)) (he : P.underlying e = some .string) (hc : P.cellsOf e = 1)
    (h : DataW.Trod enc P w 0 spare held t (.slice a len cap) d ps) : ∃ l : List (List UInt8), Rep (old w) w (.slice a len cap) (.sl (l.map fun s => [.str s])) := by
  obtain ⟨fuel, hf⟩ := h
  rcases Go.Deep.open_strs ht he hc hf with ⟨hcs, _⟩ | ⟨x, l, c, m, Sx, hcs, _, hl, hm, hz, _, hcell⟩
  · simp [Value.cells] at hcs
    obtain ⟨rfl, rfl, rfl⟩ := hcs
    exact ⟨[], .slnil (fun _ => rfl)⟩
  · simp [Value.cells] at hcs
    obtain ⟨rfl, rfl, rfl⟩ := hcs
    have hlz : len ≤ m := by rw [hz]; split <;> omega
    refine ⟨(List.range len).map fun i => (Sx i).data.toList, ?_⟩
    · rw [List.map_map]
      exact rep_slice1 (fun i => .string (Sx i)) (fun i => .str (Sx i).data.toList) hl hm (fun i hi => (hcell i (by omega)).1) (fun i hi => rep_string (hcell i (by omega)).2)
theorem pair_rep {κ : Kap} {t : TypeId} {f0 f1 : Field} {k0 k1 : IntKind} {cs : Array Value} {d : DataW H} {ps : List MemPlace} (ht : P.underlying t = some (.struct #[f0, f1])) (h0 : P.underlying f0.type = some (.int k0)) (h1 : P.underlying f1.type = some (.int k1))
    (hc : P.cellsOf t = 2) (c0 : P.cellsOf f0.type = 1) (c1 : P.cellsOf f1.type = 1) (o0 : f0.offset = 0) (o1 : f1.offset = 1)
    (h : DataW.Trod enc P w 0 spare held t (.agg cs) d ps) : ∃ n m : Int, (Lit.int k0 n).wf = true ∧ (Lit.int k1 m).wf = true ∧ Rep κ w (.agg cs) (.agg [.int k0 n, .int k1 m]) := by
  obtain ⟨fuel, hf⟩ := h
  obtain ⟨y0, y1, n, _, hl, g0, g1⟩ := Go.ChangeShapes.trod_struct2 ht hf
  rw [o0, c0] at g0
  rw [o1, c1] at g1
  rw [hc] at hl
  obtain ⟨a, e0, _, w0⟩ := DataW.trod_int h0 g0
  obtain ⟨b, e1, _, w1⟩ := DataW.trod_int h1 g1
  simp only [Value.cells] at hl e0 e1
  have hcs : cs = #[.int k0 a, .int k1 b] := by
    obtain ⟨l⟩ := cs
    match l, hl with
    | [u, v], _ =>
      simp at e0 e1
      rw [e0, e1]
  subst hcs
  refine ⟨a, b, w0, w1, .agg rfl fun i d hd => ?_⟩
  match i, hd with
  | 0, hd => simp at hd; subst hd; exact .int _ _
  | 1, hd => simp at hd; subst hd; exact .int _ _
end
end Go.Proofs.YtpagdhbmbnoddaaGreatDoor.Zz
namespace Go.Proofs.YtpagdhbmbnoddaaGreatDoor.Zz
open Go.RowKit
section
variable {P : Program} {w : World}
theorem laid_get : ∀ {laid : List (String × DataW Unit)} {ps : List MemPlace}, DataW.LaidVars P w laid ps → ∀ {i : Nat} {n : String} {d : DataW Unit}, laid[i]? = some (n, d) →
    ∃ g t cs fuel p, P.globalNamed n = some g ∧ (P.globals[g]?).map (·.type) = some t ∧ w.var? P n = some cs ∧ DataW.trod (fun _ => ()) P w 0 (fun _ => true) false fuel t cs.toList = some (d, p) ∧ ∀ x ∈ MemPlace.row ⟨g, 0, none⟩ cs.size, x ∈ ps
  | [], ps, _, i, n, d, e => by simp at e
  | (m, c) :: r, ps, h, i, n, d, e => by
    obtain ⟨g, t, cs, fuel, p, q, h1, h2, h3, h4, h5, h6⟩ := h
    cases i with
    | zero =>
      cases e
      exact ⟨g, t, cs, fuel, p, h1, h2, h3, h4, fun x hx => by rw [h6]; simp [hx]⟩
    | succ i =>
      obtain ⟨g', t', cs', fuel', p', k1, k2, k3, k4, k5⟩ := laid_get h5 (i := i) (by simpa using e)
      exact ⟨g', t', cs', fuel', p', k1, k2, k3, k4, fun x hx => by rw [h6]; simp [k5 x hx]⟩
theorem laid_ints {κ : Kap} {laid : List (String × DataW Unit)} (h : laidMet P laid w) {i : Nat} {n : String} {g N : Nat} {t e : TypeId} {k : IntKind} (zs : List Int) (hm : laid[i]? = some (n, .agg (zs.map fun z => .lit (.int k z))))
    (hg : P.globalNamed n = some g) (ht : (P.globals[g]?).map (·.type) = some t) (hu : P.underlying t = some (.array N e)) (he : P.underlying e = some (.int k)) (hc : P.cellsOf t = N) (ce : P.cellsOf e = 1) (h0 : 0 < N) :
    ∃ (cs : Array Value) (ty : TypeId), w.heap[g]? = some (.cells cs ty (0, 0)) ∧ cs.size = zs.length ∧ ∀ (j : Nat) (d : D), (zs.map fun z => D.int k z)[j]? = some d → ∃ v, cs[j]? = some v ∧ Rep κ w v d := by
  obtain ⟨ps, hl, _, hcell⟩ := h
  obtain ⟨g', t', cs, fuel, p, k1, k2, k3, k4, k5⟩ := laid_get hl hm
  rw [hg] at k1
  cases k1
  rw [ht] at k2
  cases k2
  obtain ⟨xs, m, _, hx, hs, hn, hat⟩ := DataW.trod_array hu k4
  rw [ce] at hat
  have hcs : cs.size = N := by simpa [hc] using hs
  have hzx : zs.map (fun z => DataW.lit (H := Unit) (.int k z)) = xs.map (·.1) := by injection hx with h1 h2; injection h1
  have hzl : zs.length = N := by have := congrArg List.length hzx; simp at this; omega
  obtain ⟨c, ty, hh⟩ := (hcell g 0 (k5 _ (by
    simp only [MemPlace.row, List.mem_map, List.mem_range]
    exact ⟨0, by omega, rfl⟩))).1
  have hcc : c = cs := by
    simp only [World.var?, hg, Option.bind_some, hh] at k3
    exact Option.some.inj k3
  subst hcc
  refine ⟨c, ty, hh, by omega, fun j d hd => ?_⟩
  have hj : j < N := by have := (List.getElem?_eq_some_iff.1 hd).1; simp at this; omega
  have g1 := hat j hj
  have e1 : (c.toList.drop (j * 1)).take 1 = [c[j]'(by omega)] := by
    rw [Nat.mul_one, List.drop_eq_getElem_cons (by simp; omega)]
    simp
  rw [e1, List.getElem?_eq_getElem (by omega)] at g1
  obtain ⟨a, e2, e3, _⟩ := DataW.trod_int he g1
  have e4 : c[j]'(by omega) = .int k a := by simpa using e2
  have e5 : zs[j]'(by omega) = a := by
    have := congrArg (fun l : List (DataW Unit) => l[j]?) hzx
    simp only [List.getElem?_map, List.getElem?_eq_getElem (show j < zs.length by omega), List.getElem?_eq_getElem (show j < xs.length by omega), Option.map_some, Option.some.injEq] at this
    rw [e3] at this
    simpa using this
  have e6 : d = .int k a := by
    simp only [List.getElem?_map, List.getElem?_eq_getElem (show j < zs.length by omega), Option.map_some, Option.some.injEq, e5] at hd
    exact hd.symm
  refine ⟨.int k a, by rw [Array.getElem?_eq_getElem (by omega), e4], ?_⟩
  rw [e6]
  exact .int k a
end
section
variable {H : Type} {enc : TypeId × Value → H}
theorem returns_both {a : Assume} {C : Checked} {os : Os} {f : FuncId} {fn : Func} {s : ChangeSpec} {conds : List PathCond} {apart fresh handsOn again : Bool} {X : World → Array Value → Prop}
    (hX : ∀ (w w' : World) (args : Array Value), w.heap = w'.heap → X w args → X w' args)
    (own : ownKnob C.prog.godebug = none) (started : os.Started) (noInit : C.prog.inits.idxOf? f = none) (hfn : C.prog.funcs[f]? = some fn)
    (witness : ∃ (w : World) (tape : Tape) (i : Input), w.os = os ∧ (w.forCall tape i).Shaped C.prog ∧ i.vars = [] ∧ Input.okWide C.prog (w.forCall tape i) .any w.heap.size f i ∧
      ((s.pre enc C.prog fn conds apart (w.forCall tape i).memory i.args ∧ X (w.forCall tape i).memory i.args) ∧ sizedMet enc C.prog fn (OpenSpec.ofChange s) apart (w.forCall tape i).memory i.args) ∧ a.holds C.prog (lone (Frame.enter C.prog f i.args .normal) [] (w.forCall tape i)))
    (contract : ∀ (W : World) (base : Nat) (args : Array Value) (ds gs : List (DataW H)) (before : List MemPlace),
      (∀ (j : Nat) t v, fn.params[j]? = some t → args[j]? = some v → Value.okWide C.prog W .any base t v) →
      DataW.Whole enc C.prog fn.params.toList s.vars apart W args.toList ds gs before →
      conds.all (PathCond.test C.prog ⟨fn.params.toList, ds, s.plain.varTypes C.prog, gs⟩) = true → X W args → W.ShapedOpen C.prog →
      Calls C.prog f args W fun e W' => ∃ v, e = .returned v ∧ s.post enc C.prog fn apart fresh handsOn again W args v W') :
    ReturnsInHanded a C os f .any (fun w args => (s.pre enc C.prog fn conds apart w args ∧ X w args) ∧ sizedMet enc C.prog fn (OpenSpec.ofChange s) apart w args) (s.post enc C.prog fn apart fresh handsOn again) := by
  refine returnsInHanded_of_calls own started noInit witness ?_
  intro w tape i _ hsh _ hok hpre _
  obtain ⟨_, _, _, fn', hfn', _, _, _, _, hval⟩ := hok
  have e : fn' = fn := Option.some.inj (hfn'.symm.trans hfn)
  subst e
  obtain ⟨⟨⟨ds, gs, before, hw, hc⟩, hx⟩, hz⟩ := hpre
  have hw' := DataW.Whole.of_heap (w' := w.forCall tape i) (by rfl) hw
  refine (contract (w.forCall tape i) w.heap.size i.args ds gs before hval hw' hc (hX _ _ _ (by rfl) hx) hsh).mono fun e W' ⟨v, he, hp⟩ => ?_
  subst he
  exact ChangeSpec.post_blind hp
end
def cellsOf : DataW Unit → List Value
  | .agg xs => xs.flatMap fun
    | .lit (.int k n) => [.int k n]
    | .agg ys => ys.flatMap fun
      | .lit (.int k n) => [.int k n]
      | _ => []
    | _ => []
  | _ => []
def fillAt (h : Array Obj) : List (Nat × Array Value) → Array Obj
  | [] => h
  | (g, cs) :: r => fillAt (h.modify g fun
      | .cells _ t fz => .cells cs t fz
      | o => o) r
theorem PCall.toA [Globs] {P : Program} {f : FuncId} {args : List D} {d : D} (hv : PCall P f args d) (h : AHeap) : ACalls P f args h fun o h' => o = .ret d ∧ h' = h := by
  refine ⟨hv.1, fun κ w vs hi hr => ?_⟩
  have sub := AHeap.emp_sub h
  refine (hv.2 κ w vs (hi.sub sub) hr).mono fun e w' ⟨o, h', κ'', a0, a2, a3, a4⟩ => ?_
  subst a0
  obtain ⟨f1, f2, _⟩ := hi.frame sub a3 a4
  have sub2 : h.sub (h'.union (h.minus .emp)) := fun id o ho => by
    obtain ⟨p, hp, _⟩ := hi.obj id o ho
    have := a4.ids id p hp rfl
    simpa [AHeap.union, AHeap.minus, this] using ho
  exact ⟨.ret d, h, κ'', ⟨rfl, rfl⟩, a2, f1.sub sub2, { f2 with own := fun b hb ho => f2.own b hb (ho.sub sub2), ids := fun id p hp hn => hn }⟩
end Go.Proofs.YtpagdhbmbnoddaaGreatDoor.Zz
