/- Running code by laws, more: where a choice is already made, the other way is not looked at. -/
import Derived.Test.YtpagdhbmbnoddaaGreatDoorZZC
import Derived.Laws.Externs
import Derived.KernelRfl
import Derived.Below
import Derived.Sort.Row
import Derived.Sort.Grow
import Derived.Deep.Draws
import Derived.Lib.LaidTab
import Derived.Lib.Join
import Derived.Test.YtpagdhbmbnoddaaGreatDoorProg
set_option linter.unnecessarySimpa false
set_option linter.unusedVariables false
set_option linter.unusedSimpArgs false
namespace Go.Proofs.YtpagdhbmbnoddaaGreatDoor.Zz
variable {T : Tab} {K : Ex → Fr → AHeap → Prop} {E : Fr → D → AHeap → Prop} {σ : Fr} {h : AHeap}
theorem ite_imp {b : Bool} {A B : Prop} : ((b = true → A) ∧ (b = false → B)) = if b = true then A else B := by
  cases b <;> simp
theorem ite_imp' {b : Bool} {A B : Prop} : ((b = false → A) ∧ (b = true → B)) = if b = true then B else A := by
  cases b <;> simp
theorem choose_b {c : Opd} {a b : Stm} {k : List Item} {t : Bool} : pickC T K E c a b k σ h (.bool t) = if t = true then vc T a (todo T K E k) E (σ.mark c true) h else vc T b (todo T K E k) E (σ.mark c false) h := by
  rw [pickC_bool, ite_imp]
theorem guard_bt {i : Ins Opd} {d : Option Nat} {os : List OpI} {K : Fr → AHeap → Prop} {t : Nat} {p b : Bool} : guard T i d t true p os K E σ h (.bool b) = if b = true then vcOps T (⟨i, d, none, p⟩ :: os) K E (σ.put (some t) (.bool true)) h else vcOps T os K E ((σ.put (some t) (.bool false)).put d (.tuple [])) h := by
  rw [guard_t, ite_imp]
theorem guard_bf {i : Ins Opd} {d : Option Nat} {os : List OpI} {K : Fr → AHeap → Prop} {t : Nat} {p b : Bool} : guard T i d t false p os K E σ h (.bool b) = if b = true then vcOps T os K E ((σ.put (some t) (.bool true)).put d (.tuple [])) h else vcOps T (⟨i, d, none, p⟩ :: os) K E (σ.put (some t) (.bool false)) h := by
  rw [guard_f, ite_imp']
def encS (l : List (List UInt8)) : List (List D) := l.map fun s => [.str s]
theorem len_encS {l : List (List UInt8)} : (encS l).length = l.length := by simp [encS]
theorem askE_encS {K : D → AHeap → Prop} {l : List (List UInt8)} {i : Int} : askE 1 K h (encS l) i = ((0 ≤ i ∧ i < l.length) ∧ ∀ x, l[i.toNat]? = some x → K (.eptr [.str x] 0) h) := askE_map fun _ => rfl
def decS : List (List D) → Option (List (List UInt8))
  | [] => some []
  | [.str s] :: l => (decS l).map (s :: ·)
  | _ => none
theorem decS_enc (l : List (List UInt8)) : decS (encS l) = some l := by
  induction l with
  | nil => rfl
  | cons s l ih => show (decS (encS l)).map _ = _; rw [ih]; rfl
theorem decS_some : ∀ {l : List (List D)} {x : List (List UInt8)}, decS l = some x → l = encS x
  | [], x, h => by cases h; rfl
  | [.str s] :: l, x, h => by
    simp only [decS, Option.map_eq_some_iff] at h
    obtain ⟨y, h1, rfl⟩ := h
    rw [decS_some h1]; rfl
def ownD (r n : Nat) : D := if n = 0 then .nilsl else .row r (n + 2) 0 n
def ownH (h : AHeap) (r sz : Nat) (xs : List (List D)) : AHeap := if xs = [] then h else h.set r (.row sz (xs.length + 2) xs false)
theorem ownD_zero {r : Nat} : ownD r 0 = .nilsl := rfl
theorem ownD_pos {r n : Nat} (h : n ≠ 0) : ownD r n = .row r (n + 2) 0 n := by simp [ownD, h]
theorem ownH_nil {h : AHeap} {r sz : Nat} : ownH h r sz [] = h := rfl
theorem ownH_pos {h : AHeap} {r sz : Nat} {xs : List (List D)} (e : xs ≠ []) : ownH h r sz xs = h.set r (.row sz (xs.length + 2) xs false) := by simp [ownH, e]
def extOk (P : Program) (f : FuncId) (n : String) : Bool :=
  match P.funcs[f]? with
  | some fn => fn.name == n && fn.origin == "" && fn.body.isNone
  | none => false
theorem XCall.of_row {P : Program} {f : FuncId} {n : String} {e : Array Value → Sem Value} {args : List D} {d : D} (h : extOk P f n = true) (h1 : Extern.allNextRows.lookup n = none) (h2 : Extern.allGenericRows.lookup n = none) (h3 : Extern.allTypedRows.lookup n = none)
    (h4 : Extern.allRows.lookup n = some e) (hn : (n == "runtime.NumGoroutine") = false)
    (he : ∀ (κ : Kap) (w : World) (vs : Array Value), RepL κ w vs.toList args → ∃ v, (e vs).run P w = .ok v w ∧ Rep κ w v d) : XCall P f args d := fun κ w vs hr => by
  unfold extOk at h
  split at h
  · rename_i fn hf
    simp only [Bool.and_eq_true, beq_iff_eq] at h
    obtain ⟨⟨k1, k2⟩, k3⟩ := h
    have o1 : Extern.allNextRows.lookup "" = none := by kernel_rfl
    have f1 : Extern.findNext fn = none := by simp only [Extern.findNext, k1, k2, h1, o1]; rfl
    have f2 : Extern.find fn = some e := by simp only [Extern.find, k1, h2, h3, h4]; rfl
    obtain ⟨v, a, b⟩ := he κ w vs hr
    exact ⟨v, by rw [run_callFunc_extern hf (by rw [k1]; exact hn) k3 f1 f2, a]; rfl, b⟩
  · cases h
theorem extRow_bits : Extern.allNextRows.lookup "math.Float64bits" = none ∧ Extern.allGenericRows.lookup "math.Float64bits" = none ∧ Extern.allTypedRows.lookup "math.Float64bits" = none ∧ Extern.allRows.lookup "math.Float64bits" = some Extern.MathFloatBits.float64bits :=
  ⟨by kernel_rfl, by kernel_rfl, by kernel_rfl, by kernel_rfl⟩
theorem extRow_from : Extern.allNextRows.lookup "math.Float64frombits" = none ∧ Extern.allGenericRows.lookup "math.Float64frombits" = none ∧ Extern.allTypedRows.lookup "math.Float64frombits" = none ∧ Extern.allRows.lookup "math.Float64frombits" = some Extern.MathFloatBits.float64frombits :=
  ⟨by kernel_rfl, by kernel_rfl, by kernel_rfl, by kernel_rfl⟩
def xBits : List D → Option D
  | [.float .f64 b] => some (.int .u64 b)
  | _ => none
def xFrom : List D → Option D
  | [.int .u64 n] => some (.float .f64 n.toNat)
  | _ => none
theorem xBits_ok {P : Program} {f : FuncId} (h : extOk P f "math.Float64bits" = true) (args : List D) (d : D) (e : xBits args = some d) : XCall P f args d := by
  unfold xBits at e
  split at e
  · cases e
    refine .of_row h extRow_bits.1 extRow_bits.2.1 extRow_bits.2.2.1 extRow_bits.2.2.2 (by decide) fun κ w vs hr => ?_
    obtain ⟨l⟩ := vs
    cases hr with
    | cons a t => cases t; cases a; exact ⟨_, rfl, .int _ _⟩
  · cases e
theorem xFrom_ok {P : Program} {f : FuncId} (h : extOk P f "math.Float64frombits" = true) (args : List D) (d : D) (e : xFrom args = some d) : XCall P f args d := by
  unfold xFrom at e
  split at e
  · cases e
    refine .of_row h extRow_from.1 extRow_from.2.1 extRow_from.2.2.1 extRow_from.2.2.2 (by decide) fun κ w vs hr => ?_
    obtain ⟨l⟩ := vs
    cases hr with
    | cons a t => cases t; cases a; exact ⟨_, rfl, .float _ _⟩
  · cases e
def fltK (o : Option Nat) (K : D → AHeap → Prop) (h : AHeap) : Prop :=
  match o with
  | some r => K (.float .f64 r) h
  | none => ∀ r, FloatKind.f64.format.order r r = none → K (.float .f64 r) h
theorem i_farith {op : BinOp} {a b : Nat} {K E : D → AHeap → Prop} : vcI T (.farith op (.float .f64 a) (.float .f64 b)) h K E = (isArithF op = true ∧ fltK (floatBits op .f64 a b) K h) := rfl
theorem fltK_some {r : Nat} {K : D → AHeap → Prop} : fltK (some r) K h = K (.float .f64 r) h := rfl
theorem fltK_none {K : D → AHeap → Prop} : fltK none K h = ∀ r, FloatKind.f64.format.order r r = none → K (.float .f64 r) h := rfl
theorem v_floatInt {k : IntKind} {b : Nat} : valP (.conv (.floatInt k) (.float .f64 b)) = (floatToIntVal .f64 b k).map (.int k) := rfl
theorem v_floatFloat {b : Nat} : valP (.conv .floatFloat (.float .f64 b)) = some (.float .f64 b) := rfl
end Go.Proofs.YtpagdhbmbnoddaaGreatDoor.Zz
namespace Go.Proofs.YtpagdhbmbnoddaaGreatDoor.Zz
open Go.RowKit
theorem PCall.of_below [Globs] {P : Program} {f : FuncId} {args : List D} {d : D} (hc : callable P f = true)
    (h : ∀ (κ : Kap) (w : World) (vs : Array Value), GlobRep κ w → RepL κ w vs.toList args → (∀ b, κ.imm b → b < w.heap.size) →
      Calls P f vs w fun e w' => ∃ v, e = .returned v ∧ (∀ (κ' : Kap) (w'' : World), Rep κ' w'' v d) ∧ Below w.heap.size w w') : PCall P f args d := by
  refine ⟨hc, fun κ w vs hi hr => (h κ w vs hi.glob hr hi.immLt).mono fun e w' ⟨v, e1, r, b⟩ => ?_⟩
  subst e1
  have le : Le κ w κ w' := ⟨fun x hx => ⟨hx, b.block x (hi.immLt x hx)⟩, (Le.refl κ w).loc⟩
  refine ⟨.ret d, .emp, κ, rfl, .ret (r _ _), ⟨fun x hx => Nat.lt_of_lt_of_le (hi.immLt x hx) b.size, fun i p hp => Nat.lt_of_lt_of_le (hi.locLt i p hp) b.size, hi.fresh, fun i o ho => (by cases ho), fun i j oi oj pi pj b ho => (by cases ho), hi.glob.mono le⟩, ?_⟩
  exact ⟨b.os, b.tape, b.output, b.size, fun x hx _ => b.block x hx, fun _ h => h, fun _ _ h => .inl h, le.loc, fun _ _ h _ => h, fun _ _ h => h, fun _ _ _ h => h⟩
theorem below_drewN (w : World) (k : Nat) : Below w.heap.size w (w.drewN k) := ⟨rfl, rfl, rfl, Nat.le_refl _, fun _ _ => rfl⟩
theorem rep_str_inv {κ : Kap} {w : World} {v : Value} {s : List UInt8} (h : Rep κ w v (.str s)) : v = .string ⟨s.toArray⟩ ∧ s.length ≤ 9223372036854775807 := by
  cases h with
  | str _ h => exact ⟨rfl, h⟩
theorem rep_int_inv {κ : Kap} {w : World} {v : Value} {k : IntKind} {n : Int} (h : Rep κ w v (.int k n)) : v = .int k n := by cases h; rfl
end Go.Proofs.YtpagdhbmbnoddaaGreatDoor.Zz
namespace Go.Proofs.YtpagdhbmbnoddaaGreatDoor.Zz
theorem zz : type_of% (And.intro (And.intro (And.intro (And.intro (And.intro (And.intro (And.intro (And.intro @Int.cast_ofNat_Int @Int.toNat_zero) (And.intro @forall_eq'.{1} @run_skip)) (And.intro (And.intro @run_exit @run_ret) (And.intro @run_seq @run_block))) (And.intro (And.intro (And.intro @run_cond @todo_stm) (And.intro @todo_stm_ret @todo_stm_exit)) (And.intro (And.intro @todo_blk @todo_blk_ret) (And.intro @todo_blk_exit (And.intro @todo_lp @todo_lp_ret))))) (And.intro (And.intro (And.intro (And.intro @todo_lp_exit @todo_nil) (And.intro @vcOps_nil @vc_ops)) (And.intro (And.intro @kont_app @ask_some) (And.intro @ask_none (And.intro @ask_ite @ask_ite_none)))) (And.intro (And.intro (And.intro @askH_some @askH_none) (And.intro @askH_ite @op_p)) (And.intro (And.intro @op_n @op_g) (And.intro @guard_no (And.intro @i_alloc @i_box)))))) (And.intro (And.intro (And.intro (And.intro (And.intro @i_bs @i_load) (And.intro @i_loadOf @i_callA)) (And.intro (And.intro @i_store @i_storeNe) (And.intro @fresh_ite (And.intro @encB_nil @and_imp)))) (And.intro (And.intro (And.intro @i_str_row @strRow_enc) (And.intro @i_str_sl @i_str_nil)) (And.intro (And.intro @i_str_one @i_slice_row) (And.intro @i_slice_str (And.intro @i_slice_sl @i_slice_ptr))))) (And.intro (And.intro (And.intro (And.intro @i_index_row @i_index_any) (And.intro @askE_enc @i_index_csl)) (And.intro (And.intro @i_len_str @i_len_arr) (And.intro @i_len_nil (And.intro @i_len_sl @i_len_row)))) (And.intro (And.intro (And.intro @i_len_csl @i_makeSlice) (And.intro @i_call @i_qcall)) (And.intro (And.intro @i_panic @i_append) (And.intro @srcOf_str (And.intro @srcOf_sl @app_nil))))))) (And.intro (And.intro (And.intro (And.intro (And.intro (And.intro @app_row @appR_row) (And.intro @enc_cells @v_mov)) (And.intro (And.intro @v_pick @v_build) (And.intro @v_bs (And.intro @v_nc_ptr @v_nc_eptr)))) (And.intro (And.intro (And.intro @v_nc_rptr @v_nc_func) (And.intro @v_bin @v_eql)) (And.intro (And.intro @v_un @v_intInt) (And.intro @v_intFloat (And.intro @v_same @v_strBytes))))) (And.intro (And.intro (And.intro (And.intro @v_slice @v_fa_ptr) (And.intro @v_fa_eptr @v_fa_rptr)) (And.intro (And.intro @v_field @v_ia_ptr) (And.intro @v_ia_eptr (And.intro @v_ia_rptr @v_indexA)))) (And.intro (And.intro (And.intro @v_indexS @v_is_enc) (And.intro @v_is_csl @v_extract)) (And.intro (And.intro @v_mkIface @v_mkFunc) (And.intro @v_max (And.intro @v_min @v_len0)))))) (And.intro (And.intro (And.intro (And.intro (And.intro @Fr.put_some @Fr.put_none) (And.intro @Fr.put_defs @retP_iff)) (And.intro (And.intro @retN_iff @retS_ret) (And.intro @retS_normal (And.intro @retF_ret @retF_normal)))) (And.intro (And.intro (And.intro @bounds_nn @bounds_ns) (And.intro @bounds_sn @bounds_ss)) (And.intro (And.intro @slice_str @map_ite) (And.intro @ex_ite (And.intro @mkFr_env @mkFr_defs))))) (And.intro (And.intro (And.intro (And.intro @leL_nil @leL_cons) (And.intro @List.replicate_succ.{0} @List.replicate_zero.{0})) (And.intro (And.intro @List.forall_mem_cons.{0} @List.not_mem_nil.{0}) (And.intro @Nat.zero_lt_succ (And.intro @Nat.lt_add_one @enc_all)))) (And.intro (And.intro (And.intro @enc_dec @enc_append) (And.intro @enc_take @enc_drop)) (And.intro (And.intro @len_encB @AHeap.set_set) (And.intro @Int.toNat_natCast (And.intro @plain_undef @frz_undef)))))))) (And.intro (And.intro (And.intro (And.intro (And.intro (And.intro (And.intro @plain_bool @frz_bool) (And.intro @plain_int @frz_int)) (And.intro (And.intro @plain_float @frz_float) (And.intro @plain_str (And.intro @frz_str @plain_nilptr)))) (And.intro (And.intro (And.intro @frz_nilptr @plain_ptr) (And.intro @frz_ptr @plain_eptr)) (And.intro (And.intro @frz_eptr @plain_rptr) (And.intro @frz_rptr (And.intro @plain_sl @frz_sl))))) (And.intro (And.intro (And.intro (And.intro @plain_csl @frz_csl) (And.intro @plain_tuple @frz_tuple)) (And.intro (And.intro @plain_func @frz_func) (And.intro @plain_nilfunc (And.intro @frz_nilfunc @plain_iface)))) (And.intro (And.intro (And.intro @frz_iface @plain_nilif) (And.intro @frz_nilif @plain_map)) (And.intro (And.intro @frz_map @plain_nilmap) (And.intro @frz_nilmap (And.intro @plC_undef @plC_bool)))))) (And.intro (And.intro (And.intro (And.intro (And.intro @plC_int @plC_float) (And.intro @plC_str @plC_nilptr)) (And.intro (And.intro @plC_ptr @plC_eptr) (And.intro @plC_rptr (And.intro @plC_sl @plC_csl)))) (And.intro (And.intro (And.intro @plC_tuple @plC_func) (And.intro @plC_nilfunc @plC_iface)) (And.intro (And.intro @plC_nilif @plC_map) (And.intro @plC_nilmap (And.intro @plain_nilsl @frz_nilsl))))) (And.intro (And.intro (And.intro (And.intro @plain_row @plR_row) (And.intro @frz_row @frzR_row)) (And.intro (And.intro @frzL_nil @frzL_cons) (And.intro @plain_agg' (And.intro @plC_nilsl @plC_row)))) (And.intro (And.intro (And.intro @frza_nil @frza_row) (And.intro @frza_undef @frza_bool)) (And.intro (And.intro @frza_int @frza_float) (And.intro @frza_str (And.intro @frza_nilptr @frza_ptr))))))) (And.intro (And.intro (And.intro (And.intro (And.intro (And.intro @frza_eptr @frza_rptr) (And.intro @frza_nilsl @frza_sl)) (And.intro (And.intro @frza_csl @frza_func) (And.intro @frza_nilfunc (And.intro @frza_iface @frza_nilif)))) (And.intro (And.intro (And.intro @frza_map @frza_nilmap) (And.intro @AHeap.set_f @AHeap.emp_f)) (And.intro (And.intro @Option.map_some.{0,0} @Option.map_none.{0,0}) (And.intro @Option.some.injEq.{0} (And.intro @exists_eq_left'.{1} @exists_eq_left.{1}))))) (And.intro (And.intro (And.intro (And.intro @true_and @and_true) (And.intro @List.map_cons.{0,0} @List.map_nil.{0,0})) (And.intro (And.intro @List.append_nil.{0} @List.nil_append.{0}) (And.intro @List.cons_append.{0} (And.intro @List.foldl_cons.{0,0} @List.foldl_nil.{0,0})))) (And.intro (And.intro (And.intro @List.all_cons.{0} @List.all_nil.{0}) (And.intro @Bool.and_true @Bool.and_self)) (And.intro (And.intro @Bool.true_and @List.length_cons.{0}) (And.intro @List.length_nil.{0} (And.intro @List.getElem?_cons_zero.{0} @List.getElem?_cons_succ.{0})))))) (And.intro (And.intro (And.intro (And.intro (And.intro @List.set_cons_zero.{0} @List.set_cons_succ.{0}) (And.intro (And.intro @forall_const.{0} @forall_const.{1}) @false_implies)) (And.intro (And.intro (And.intro @implies_true.{0} @implies_true.{1}) @true_implies) (And.intro @Bool.not_true (And.intro @Bool.not_false @decide_eq_true_eq)))) (And.intro (And.intro (And.intro @decide_eq_false_iff_not @Bool.true_eq_false) (And.intro @Bool.false_eq_true @AOut.ret.injEq)) (And.intro (And.intro @Nat.zero_add @Nat.add_zero) (And.intro @beq_self_eq_true.{0} (And.intro @bne_self_eq_false.{0} @cond_true.{1}))))) (And.intro (And.intro (And.intro (And.intro @cond_false.{1} @List.drop_zero.{0}) (And.intro @Nat.sub_zero @D.int.injEq)) (And.intro (And.intro @D.str.injEq @D.bool.injEq) (And.intro @D.tuple.injEq (And.intro @D.agg.injEq @D.sl.injEq)))) (And.intro (And.intro (And.intro @List.cons.injEq.{0} @or_true) (And.intro @true_or @or_false)) (And.intro (And.intro @false_or @and_self) (And.intro @not_true_eq_false (And.intro @not_false_eq_true @ne_eq.{1}))))))))) := (And.intro (And.intro (And.intro (And.intro (And.intro (And.intro (And.intro (And.intro @Int.cast_ofNat_Int @Int.toNat_zero) (And.intro @forall_eq'.{1} @run_skip)) (And.intro (And.intro @run_exit @run_ret) (And.intro @run_seq @run_block))) (And.intro (And.intro (And.intro @run_cond @todo_stm) (And.intro @todo_stm_ret @todo_stm_exit)) (And.intro (And.intro @todo_blk @todo_blk_ret) (And.intro @todo_blk_exit (And.intro @todo_lp @todo_lp_ret))))) (And.intro (And.intro (And.intro (And.intro @todo_lp_exit @todo_nil) (And.intro @vcOps_nil @vc_ops)) (And.intro (And.intro @kont_app @ask_some) (And.intro @ask_none (And.intro @ask_ite @ask_ite_none)))) (And.intro (And.intro (And.intro @askH_some @askH_none) (And.intro @askH_ite @op_p)) (And.intro (And.intro @op_n @op_g) (And.intro @guard_no (And.intro @i_alloc @i_box)))))) (And.intro (And.intro (And.intro (And.intro (And.intro @i_bs @i_load) (And.intro @i_loadOf @i_callA)) (And.intro (And.intro @i_store @i_storeNe) (And.intro @fresh_ite (And.intro @encB_nil @and_imp)))) (And.intro (And.intro (And.intro @i_str_row @strRow_enc) (And.intro @i_str_sl @i_str_nil)) (And.intro (And.intro @i_str_one @i_slice_row) (And.intro @i_slice_str (And.intro @i_slice_sl @i_slice_ptr))))) (And.intro (And.intro (And.intro (And.intro @i_index_row @i_index_any) (And.intro @askE_enc @i_index_csl)) (And.intro (And.intro @i_len_str @i_len_arr) (And.intro @i_len_nil (And.intro @i_len_sl @i_len_row)))) (And.intro (And.intro (And.intro @i_len_csl @i_makeSlice) (And.intro @i_call @i_qcall)) (And.intro (And.intro @i_panic @i_append) (And.intro @srcOf_str (And.intro @srcOf_sl @app_nil))))))) (And.intro (And.intro (And.intro (And.intro (And.intro (And.intro @app_row @appR_row) (And.intro @enc_cells @v_mov)) (And.intro (And.intro @v_pick @v_build) (And.intro @v_bs (And.intro @v_nc_ptr @v_nc_eptr)))) (And.intro (And.intro (And.intro @v_nc_rptr @v_nc_func) (And.intro @v_bin @v_eql)) (And.intro (And.intro @v_un @v_intInt) (And.intro @v_intFloat (And.intro @v_same @v_strBytes))))) (And.intro (And.intro (And.intro (And.intro @v_slice @v_fa_ptr) (And.intro @v_fa_eptr @v_fa_rptr)) (And.intro (And.intro @v_field @v_ia_ptr) (And.intro @v_ia_eptr (And.intro @v_ia_rptr @v_indexA)))) (And.intro (And.intro (And.intro @v_indexS @v_is_enc) (And.intro @v_is_csl @v_extract)) (And.intro (And.intro @v_mkIface @v_mkFunc) (And.intro @v_max (And.intro @v_min @v_len0)))))) (And.intro (And.intro (And.intro (And.intro (And.intro @Fr.put_some @Fr.put_none) (And.intro @Fr.put_defs @retP_iff)) (And.intro (And.intro @retN_iff @retS_ret) (And.intro @retS_normal (And.intro @retF_ret @retF_normal)))) (And.intro (And.intro (And.intro @bounds_nn @bounds_ns) (And.intro @bounds_sn @bounds_ss)) (And.intro (And.intro @slice_str @map_ite) (And.intro @ex_ite (And.intro @mkFr_env @mkFr_defs))))) (And.intro (And.intro (And.intro (And.intro @leL_nil @leL_cons) (And.intro @List.replicate_succ.{0} @List.replicate_zero.{0})) (And.intro (And.intro @List.forall_mem_cons.{0} @List.not_mem_nil.{0}) (And.intro @Nat.zero_lt_succ (And.intro @Nat.lt_add_one @enc_all)))) (And.intro (And.intro (And.intro @enc_dec @enc_append) (And.intro @enc_take @enc_drop)) (And.intro (And.intro @len_encB @AHeap.set_set) (And.intro @Int.toNat_natCast (And.intro @plain_undef @frz_undef)))))))) (And.intro (And.intro (And.intro (And.intro (And.intro (And.intro (And.intro @plain_bool @frz_bool) (And.intro @plain_int @frz_int)) (And.intro (And.intro @plain_float @frz_float) (And.intro @plain_str (And.intro @frz_str @plain_nilptr)))) (And.intro (And.intro (And.intro @frz_nilptr @plain_ptr) (And.intro @frz_ptr @plain_eptr)) (And.intro (And.intro @frz_eptr @plain_rptr) (And.intro @frz_rptr (And.intro @plain_sl @frz_sl))))) (And.intro (And.intro (And.intro (And.intro @plain_csl @frz_csl) (And.intro @plain_tuple @frz_tuple)) (And.intro (And.intro @plain_func @frz_func) (And.intro @plain_nilfunc (And.intro @frz_nilfunc @plain_iface)))) (And.intro (And.intro (And.intro @frz_iface @plain_nilif) (And.intro @frz_nilif @plain_map)) (And.intro (And.intro @frz_map @plain_nilmap) (And.intro @frz_nilmap (And.intro @plC_undef @plC_bool)))))) (And.intro (And.intro (And.intro (And.intro (And.intro @plC_int @plC_float) (And.intro @plC_str @plC_nilptr)) (And.intro (And.intro @plC_ptr @plC_eptr) (And.intro @plC_rptr (And.intro @plC_sl @plC_csl)))) (And.intro (And.intro (And.intro @plC_tuple @plC_func) (And.intro @plC_nilfunc @plC_iface)) (And.intro (And.intro @plC_nilif @plC_map) (And.intro @plC_nilmap (And.intro @plain_nilsl @frz_nilsl))))) (And.intro (And.intro (And.intro (And.intro @plain_row @plR_row) (And.intro @frz_row @frzR_row)) (And.intro (And.intro @frzL_nil @frzL_cons) (And.intro @plain_agg' (And.intro @plC_nilsl @plC_row)))) (And.intro (And.intro (And.intro @frza_nil @frza_row) (And.intro @frza_undef @frza_bool)) (And.intro (And.intro @frza_int @frza_float) (And.intro @frza_str (And.intro @frza_nilptr @frza_ptr))))))) (And.intro (And.intro (And.intro (And.intro (And.intro (And.intro @frza_eptr @frza_rptr) (And.intro @frza_nilsl @frza_sl)) (And.intro (And.intro @frza_csl @frza_func) (And.intro @frza_nilfunc (And.intro @frza_iface @frza_nilif)))) (And.intro (And.intro (And.intro @frza_map @frza_nilmap) (And.intro @AHeap.set_f @AHeap.emp_f)) (And.intro (And.intro @Option.map_some.{0,0} @Option.map_none.{0,0}) (And.intro @Option.some.injEq.{0} (And.intro @exists_eq_left'.{1} @exists_eq_left.{1}))))) (And.intro (And.intro (And.intro (And.intro @true_and @and_true) (And.intro @List.map_cons.{0,0} @List.map_nil.{0,0})) (And.intro (And.intro @List.append_nil.{0} @List.nil_append.{0}) (And.intro @List.cons_append.{0} (And.intro @List.foldl_cons.{0,0} @List.foldl_nil.{0,0})))) (And.intro (And.intro (And.intro @List.all_cons.{0} @List.all_nil.{0}) (And.intro @Bool.and_true @Bool.and_self)) (And.intro (And.intro @Bool.true_and @List.length_cons.{0}) (And.intro @List.length_nil.{0} (And.intro @List.getElem?_cons_zero.{0} @List.getElem?_cons_succ.{0})))))) (And.intro (And.intro (And.intro (And.intro (And.intro @List.set_cons_zero.{0} @List.set_cons_succ.{0}) (And.intro (And.intro @forall_const.{0} @forall_const.{1}) @false_implies)) (And.intro (And.intro (And.intro @implies_true.{0} @implies_true.{1}) @true_implies) (And.intro @Bool.not_true (And.intro @Bool.not_false @decide_eq_true_eq)))) (And.intro (And.intro (And.intro @decide_eq_false_iff_not @Bool.true_eq_false) (And.intro @Bool.false_eq_true @AOut.ret.injEq)) (And.intro (And.intro @Nat.zero_add @Nat.add_zero) (And.intro @beq_self_eq_true.{0} (And.intro @bne_self_eq_false.{0} @cond_true.{1}))))) (And.intro (And.intro (And.intro (And.intro @cond_false.{1} @List.drop_zero.{0}) (And.intro @Nat.sub_zero @D.int.injEq)) (And.intro (And.intro @D.str.injEq @D.bool.injEq) (And.intro @D.tuple.injEq (And.intro @D.agg.injEq @D.sl.injEq)))) (And.intro (And.intro (And.intro @List.cons.injEq.{0} @or_true) (And.intro @true_or @or_false)) (And.intro (And.intro @false_or @and_self) (And.intro @not_true_eq_false (And.intro @not_false_eq_true @ne_eq.{1})))))))))
theorem zzN : type_of% (And.intro @choose_b (And.intro @guard_bt @guard_bf)) := And.intro @choose_b (And.intro @guard_bt @guard_bf)
theorem zzF : type_of% (And.intro @i_farith (And.intro (And.intro @fltK_some @fltK_none) (And.intro @v_floatInt @v_floatFloat))) := (And.intro @i_farith (And.intro (And.intro @fltK_some @fltK_none) (And.intro @v_floatInt @v_floatFloat)))
theorem zzD : type_of% (And.intro @vc_opsD (And.intro @run_defer (And.intro @putOff_func (And.intro @Fr.env_defs (And.intro @Fr.defs_defs (And.intro @leD_nil (And.intro @leD_cons (And.intro @mkFrD_env (And.intro @mkFrD_defs @Ed_panS))))))))) := And.intro @vc_opsD (And.intro @run_defer (And.intro @putOff_func (And.intro @Fr.env_defs (And.intro @Fr.defs_defs (And.intro @leD_nil (And.intro @leD_cons (And.intro @mkFrD_env (And.intro @mkFrD_defs @Ed_panS))))))))
theorem zzM : type_of% (And.intro (And.intro (And.intro (And.intro (And.intro (And.intro (And.intro @Ins.map.eq_1 (And.intro @Ins.map.eq_2 @Ins.map.eq_3)) (And.intro @Ins.map.eq_4 (And.intro @Ins.map.eq_5 @Ins.map.eq_6))) (And.intro (And.intro @Ins.map.eq_7 (And.intro @Ins.map.eq_8 @Ins.map.eq_9)) (And.intro (And.intro @Ins.map.eq_10 @Ins.map.eq_11) (And.intro @Ins.map.eq_12 @Ins.map.eq_13)))) (And.intro (And.intro (And.intro @Ins.map.eq_14 (And.intro @Ins.map.eq_15 @Ins.map.eq_16)) (And.intro @Ins.map.eq_17 (And.intro @Ins.map.eq_18 @Ins.map.eq_19))) (And.intro (And.intro @Ins.map.eq_20 (And.intro @Ins.map.eq_21 @Ins.map.eq_22)) (And.intro (And.intro @Ins.map.eq_23 @Ins.map.eq_24) (And.intro @Ins.map.eq_25 @Ins.map.eq_26))))) (And.intro (And.intro (And.intro (And.intro @Ins.map.eq_27 (And.intro @Ins.map.eq_28 @Ins.map.eq_29)) (And.intro @Ins.map.eq_30 (And.intro @Ins.map.eq_31 @Ins.map.eq_32))) (And.intro (And.intro @Ins.map.eq_33 (And.intro @Ins.map.eq_34 @Ins.map.eq_35)) (And.intro (And.intro @Ins.map.eq_36 @Ins.map.eq_37) (And.intro @Ins.map.eq_38 @Ins.map.eq_39)))) (And.intro (And.intro (And.intro @Ins.map.eq_40 (And.intro @Ins.map.eq_41 @Ins.map.eq_42)) (And.intro (And.intro @Ins.map.eq_43 @Ins.map.eq_44) (And.intro @Ins.map.eq_45 @Ins.map.eq_46))) (And.intro (And.intro @Ins.map.eq_47 (And.intro @Ins.map.eq_48 @Ins.map.eq_49)) (And.intro (And.intro @Fr.ev.eq_1 @Fr.ev.eq_2) (And.intro @Fr.ev.eq_3 @argFr.eq_1)))))) (And.intro (And.intro (And.intro (And.intro (And.intro @argE.eq_1 (And.intro @argE.eq_2 @binEv.eq_1)) (And.intro @binEv.eq_2 (And.intro @binEv.eq_3 @binEv.eq_4))) (And.intro (And.intro @binEv.eq_5 (And.intro @binEv.eq_6 @intEv.eq_1)) (And.intro (And.intro @intEv.eq_2 @intEv.eq_3) (And.intro @intEv.eq_4 @intEv.eq_5)))) (And.intro (And.intro (And.intro @intEv.eq_6 (And.intro @intEv.eq_7 @intEv.eq_8)) (And.intro @intEv.eq_9 (And.intro @intEv.eq_10 @intEv.eq_11))) (And.intro (And.intro @intEv.eq_12 (And.intro @intEv.eq_13 @intEv.eq_14)) (And.intro (And.intro @intEv.eq_15 @intEv.eq_16) (And.intro @shEv.eq_1 @shEv.eq_2))))) (And.intro (And.intro (And.intro (And.intro @shEv.eq_3 (And.intro @strEv.eq_1 @strEv.eq_2)) (And.intro @strEv.eq_3 (And.intro @strEv.eq_4 @strEv.eq_5))) (And.intro (And.intro @strEv.eq_6 (And.intro @strEv.eq_7 @strEv.eq_8)) (And.intro (And.intro @unEv.eq_1 @unEv.eq_2) (And.intro @unEv.eq_3 @unEv.eq_4)))) (And.intro (And.intro (And.intro @unEv.eq_5 (And.intro @unEv.eq_6 @unEv.eq_7)) (And.intro (And.intro @unEv.eq_8 @Fr.mark.eq_1) (And.intro @Fr.mark.eq_2 @evRes.eq_1))) (And.intro (And.intro @evRes.eq_2 (And.intro @evRes.eq_3 @tup.eq_1)) (And.intro (And.intro @tup.eq_2 @lenD.eq_1) (And.intro @lenD.eq_2 @lenD.eq_3))))))) (And.intro (And.intro (And.intro (And.intro (And.intro (And.intro @lenD.eq_4 (And.intro @lenD.eq_5 @lenD.eq_6)) (And.intro @lenD.eq_7 (And.intro @lookupD.eq_1 @lookupD.eq_2))) (And.intro (And.intro @loadD.eq_1 (And.intro @loadD.eq_2 @loadD.eq_3)) (And.intro (And.intro @loadD.eq_4 @partD.eq_1) (And.intro @partD.eq_2 @storeD.eq_1)))) (And.intro (And.intro (And.intro @storeD.eq_2 (And.intro @storeD.eq_3 @cellsD.eq_1)) (And.intro @cellsD.eq_2 (And.intro @cellOk.eq_1 @cellOk.eq_2))) (And.intro (And.intro @cellOk.eq_3 (And.intro @cellOk.eq_4 @setAt.eq_1)) (And.intro (And.intro @setAt.eq_2 @objNe.eq_1) (And.intro @objNe.eq_2 @objNe.eq_3))))) (And.intro (And.intro (And.intro (And.intro @objNe.eq_4 (And.intro @objNe.eq_5 @objNe.eq_6)) (And.intro @objSame.eq_1 (And.intro @objSame.eq_2 @objSame.eq_3))) (And.intro (And.intro @objSame.eq_4 (And.intro @objSame.eq_5 @objSame.eq_6)) (And.intro (And.intro @eqEv.eq_1 @eqEv.eq_2) (And.intro @eqEv.eq_3 @eqEv.eq_4)))) (And.intro (And.intro (And.intro @eqEv.eq_5 (And.intro @eqEv.eq_6 @eqEv.eq_7)) (And.intro (And.intro @eqEv.eq_8 @eqEv.eq_9) (And.intro @eqEv.eq_10 @eqEv.eq_11))) (And.intro (And.intro @eqEv.eq_12 (And.intro @readEv.eq_1 @readEv.eq_2)) (And.intro (And.intro @readEv.eq_3 @readEv.eq_4) (And.intro @readEv.eq_5 @readEv.eq_6)))))) (And.intro (And.intro (And.intro (And.intro (And.intro @readEv.eq_7 (And.intro @readEv.eq_8 @buildD.eq_1)) (And.intro @buildD.eq_2 (And.intro @buildRows.eq_1 @buildRows.eq_2))) (And.intro (And.intro @rowsOf.eq_1 (And.intro @elemsOf.eq_1 @elemsOf.eq_2)) (And.intro (And.intro @elemsOf.eq_3 @elemsOf.eq_4) (And.intro @elemsOf.eq_5 @normX.eq_1)))) (And.intro (And.intro (And.intro @unnil.eq_1 (And.intro @unnil.eq_2 @isNil.eq_1)) (And.intro (And.intro @isNil.eq_2 @fltEv.eq_1) (And.intro @fltEv.eq_2 @fltEv.eq_3))) (And.intro (And.intro @fltEv.eq_4 (And.intro @fltEv.eq_5 @fltEv.eq_6)) (And.intro (And.intro @fltEv.eq_7 @isArithF.eq_1) (And.intro @isArithF.eq_2 @isArithF.eq_3))))) (And.intro (And.intro (And.intro (And.intro @isArithF.eq_4 (And.intro @isArithF.eq_5 @keptAt.eq_1)) (And.intro @keptAt.eq_2 (And.intro @keptAt.eq_3 @keptAt.eq_4))) (And.intro (And.intro @cellAt.eq_1 (And.intro @cellAt.eq_2 @lent_bool)) (And.intro (And.intro @lent_int @lent_float) (And.intro @lent_str @lent_agg)))) (And.intro (And.intro (And.intro @lent_tuple (And.intro @lent_sl @lent_func)) (And.intro (And.intro @lent_iface @lent_nilif) (And.intro @lent_same @List.any_cons.{0}))) (And.intro (And.intro @List.any_nil.{0} (And.intro @List.map_cons.{0,0} @List.map_nil.{0,0})) (And.intro (And.intro @Bool.or_false @Bool.false_or) (And.intro @Bool.or_true @Bool.true_or)))))))) := And.intro (And.intro (And.intro (And.intro (And.intro (And.intro (And.intro @Ins.map.eq_1 (And.intro @Ins.map.eq_2 @Ins.map.eq_3)) (And.intro @Ins.map.eq_4 (And.intro @Ins.map.eq_5 @Ins.map.eq_6))) (And.intro (And.intro @Ins.map.eq_7 (And.intro @Ins.map.eq_8 @Ins.map.eq_9)) (And.intro (And.intro @Ins.map.eq_10 @Ins.map.eq_11) (And.intro @Ins.map.eq_12 @Ins.map.eq_13)))) (And.intro (And.intro (And.intro @Ins.map.eq_14 (And.intro @Ins.map.eq_15 @Ins.map.eq_16)) (And.intro @Ins.map.eq_17 (And.intro @Ins.map.eq_18 @Ins.map.eq_19))) (And.intro (And.intro @Ins.map.eq_20 (And.intro @Ins.map.eq_21 @Ins.map.eq_22)) (And.intro (And.intro @Ins.map.eq_23 @Ins.map.eq_24) (And.intro @Ins.map.eq_25 @Ins.map.eq_26))))) (And.intro (And.intro (And.intro (And.intro @Ins.map.eq_27 (And.intro @Ins.map.eq_28 @Ins.map.eq_29)) (And.intro @Ins.map.eq_30 (And.intro @Ins.map.eq_31 @Ins.map.eq_32))) (And.intro (And.intro @Ins.map.eq_33 (And.intro @Ins.map.eq_34 @Ins.map.eq_35)) (And.intro (And.intro @Ins.map.eq_36 @Ins.map.eq_37) (And.intro @Ins.map.eq_38 @Ins.map.eq_39)))) (And.intro (And.intro (And.intro @Ins.map.eq_40 (And.intro @Ins.map.eq_41 @Ins.map.eq_42)) (And.intro (And.intro @Ins.map.eq_43 @Ins.map.eq_44) (And.intro @Ins.map.eq_45 @Ins.map.eq_46))) (And.intro (And.intro @Ins.map.eq_47 (And.intro @Ins.map.eq_48 @Ins.map.eq_49)) (And.intro (And.intro @Fr.ev.eq_1 @Fr.ev.eq_2) (And.intro @Fr.ev.eq_3 @argFr.eq_1)))))) (And.intro (And.intro (And.intro (And.intro (And.intro @argE.eq_1 (And.intro @argE.eq_2 @binEv.eq_1)) (And.intro @binEv.eq_2 (And.intro @binEv.eq_3 @binEv.eq_4))) (And.intro (And.intro @binEv.eq_5 (And.intro @binEv.eq_6 @intEv.eq_1)) (And.intro (And.intro @intEv.eq_2 @intEv.eq_3) (And.intro @intEv.eq_4 @intEv.eq_5)))) (And.intro (And.intro (And.intro @intEv.eq_6 (And.intro @intEv.eq_7 @intEv.eq_8)) (And.intro @intEv.eq_9 (And.intro @intEv.eq_10 @intEv.eq_11))) (And.intro (And.intro @intEv.eq_12 (And.intro @intEv.eq_13 @intEv.eq_14)) (And.intro (And.intro @intEv.eq_15 @intEv.eq_16) (And.intro @shEv.eq_1 @shEv.eq_2))))) (And.intro (And.intro (And.intro (And.intro @shEv.eq_3 (And.intro @strEv.eq_1 @strEv.eq_2)) (And.intro @strEv.eq_3 (And.intro @strEv.eq_4 @strEv.eq_5))) (And.intro (And.intro @strEv.eq_6 (And.intro @strEv.eq_7 @strEv.eq_8)) (And.intro (And.intro @unEv.eq_1 @unEv.eq_2) (And.intro @unEv.eq_3 @unEv.eq_4)))) (And.intro (And.intro (And.intro @unEv.eq_5 (And.intro @unEv.eq_6 @unEv.eq_7)) (And.intro (And.intro @unEv.eq_8 @Fr.mark.eq_1) (And.intro @Fr.mark.eq_2 @evRes.eq_1))) (And.intro (And.intro @evRes.eq_2 (And.intro @evRes.eq_3 @tup.eq_1)) (And.intro (And.intro @tup.eq_2 @lenD.eq_1) (And.intro @lenD.eq_2 @lenD.eq_3))))))) (And.intro (And.intro (And.intro (And.intro (And.intro (And.intro @lenD.eq_4 (And.intro @lenD.eq_5 @lenD.eq_6)) (And.intro @lenD.eq_7 (And.intro @lookupD.eq_1 @lookupD.eq_2))) (And.intro (And.intro @loadD.eq_1 (And.intro @loadD.eq_2 @loadD.eq_3)) (And.intro (And.intro @loadD.eq_4 @partD.eq_1) (And.intro @partD.eq_2 @storeD.eq_1)))) (And.intro (And.intro (And.intro @storeD.eq_2 (And.intro @storeD.eq_3 @cellsD.eq_1)) (And.intro @cellsD.eq_2 (And.intro @cellOk.eq_1 @cellOk.eq_2))) (And.intro (And.intro @cellOk.eq_3 (And.intro @cellOk.eq_4 @setAt.eq_1)) (And.intro (And.intro @setAt.eq_2 @objNe.eq_1) (And.intro @objNe.eq_2 @objNe.eq_3))))) (And.intro (And.intro (And.intro (And.intro @objNe.eq_4 (And.intro @objNe.eq_5 @objNe.eq_6)) (And.intro @objSame.eq_1 (And.intro @objSame.eq_2 @objSame.eq_3))) (And.intro (And.intro @objSame.eq_4 (And.intro @objSame.eq_5 @objSame.eq_6)) (And.intro (And.intro @eqEv.eq_1 @eqEv.eq_2) (And.intro @eqEv.eq_3 @eqEv.eq_4)))) (And.intro (And.intro (And.intro @eqEv.eq_5 (And.intro @eqEv.eq_6 @eqEv.eq_7)) (And.intro (And.intro @eqEv.eq_8 @eqEv.eq_9) (And.intro @eqEv.eq_10 @eqEv.eq_11))) (And.intro (And.intro @eqEv.eq_12 (And.intro @readEv.eq_1 @readEv.eq_2)) (And.intro (And.intro @readEv.eq_3 @readEv.eq_4) (And.intro @readEv.eq_5 @readEv.eq_6)))))) (And.intro (And.intro (And.intro (And.intro (And.intro @readEv.eq_7 (And.intro @readEv.eq_8 @buildD.eq_1)) (And.intro @buildD.eq_2 (And.intro @buildRows.eq_1 @buildRows.eq_2))) (And.intro (And.intro @rowsOf.eq_1 (And.intro @elemsOf.eq_1 @elemsOf.eq_2)) (And.intro (And.intro @elemsOf.eq_3 @elemsOf.eq_4) (And.intro @elemsOf.eq_5 @normX.eq_1)))) (And.intro (And.intro (And.intro @unnil.eq_1 (And.intro @unnil.eq_2 @isNil.eq_1)) (And.intro (And.intro @isNil.eq_2 @fltEv.eq_1) (And.intro @fltEv.eq_2 @fltEv.eq_3))) (And.intro (And.intro @fltEv.eq_4 (And.intro @fltEv.eq_5 @fltEv.eq_6)) (And.intro (And.intro @fltEv.eq_7 @isArithF.eq_1) (And.intro @isArithF.eq_2 @isArithF.eq_3))))) (And.intro (And.intro (And.intro (And.intro @isArithF.eq_4 (And.intro @isArithF.eq_5 @keptAt.eq_1)) (And.intro @keptAt.eq_2 (And.intro @keptAt.eq_3 @keptAt.eq_4))) (And.intro (And.intro @cellAt.eq_1 (And.intro @cellAt.eq_2 @lent_bool)) (And.intro (And.intro @lent_int @lent_float) (And.intro @lent_str @lent_agg)))) (And.intro (And.intro (And.intro @lent_tuple (And.intro @lent_sl @lent_func)) (And.intro (And.intro @lent_iface @lent_nilif) (And.intro @lent_same @List.any_cons.{0}))) (And.intro (And.intro @List.any_nil.{0} (And.intro @List.map_cons.{0,0} @List.map_nil.{0,0})) (And.intro (And.intro @Bool.or_false @Bool.false_or) (And.intro @Bool.or_true @Bool.true_or)))))))
theorem zzK : type_of% (And.intro (And.intro (And.intro (And.intro (And.intro @zz @zzN) (And.intro @zzF @zzD)) (And.intro (And.intro @zzM @i_callNe) (And.intro @Int.natCast_nonneg @Nat.le_refl))) (And.intro (And.intro (And.intro @Int.le_refl @List.take_succ_cons.{0}) (And.intro @List.take_zero.{0} @decide_true)) (And.intro (And.intro @decide_false @Bool.and_false) (And.intro @Bool.false_and (And.intro @cond_true.{0} @cond_false.{0}))))) (And.intro (And.intro @i_appendA @appA_nil) (And.intro (And.intro @appA_row @appAR_row) (And.intro @i_storeB @stB_some)))) := And.intro (And.intro (And.intro (And.intro (And.intro @zz @zzN) (And.intro @zzF @zzD)) (And.intro (And.intro @zzM @i_callNe) (And.intro @Int.natCast_nonneg @Nat.le_refl))) (And.intro (And.intro (And.intro @Int.le_refl @List.take_succ_cons.{0}) (And.intro @List.take_zero.{0} @decide_true)) (And.intro (And.intro @decide_false @Bool.and_false) (And.intro @Bool.false_and (And.intro @cond_true.{0} @cond_false.{0}))))) (And.intro (And.intro @i_appendA @appA_nil) (And.intro (And.intro @appA_row @appAR_row) (And.intro @i_storeB @stB_some)))
end Go.Proofs.YtpagdhbmbnoddaaGreatDoor.Zz
namespace Go.Proofs.YtpagdhbmbnoddaaGreatDoor.Zz
def zs1 : List Int := [1, 10, 100, 1000, 10000, 100000, 1000000, 10000000, 100000000, 1000000000, 10000000000, 100000000000, 1000000000000, 10000000000000, 100000000000000, 1000000000000000, 10000000000000000, 100000000000000000, 1000000000000000000, 10000000000000000000]
def gl1 : List D := zs1.map fun z => .int .u64 z
instance globs : Globs := ⟨fun g => if g = 1 then some gl1 else none, fun g => if g = 2 then some .i64 else none⟩
theorem globs_cases {g : Nat} {ds : List D} (e : Globs.of g = some ds) : (g = 1 ∧ ds = gl1) := by
  simp only [Globs.of] at e
  split at e
  · rename_i h; cases e; exact ⟨h, rfl⟩
  · cases e
theorem ints_cases {g : Nat} {k : IntKind} (e : Globs.ints g = some k) : (g = 2 ∧ k = .i64) := by
  simp only [Globs.ints] at e
  split at e
  · rename_i h; cases e; exact ⟨h, rfl⟩
  · cases e
end Go.Proofs.YtpagdhbmbnoddaaGreatDoor.Zz

namespace Go.Proofs.YtpagdhbmbnoddaaGreatDoor.Zz
inductive Nd where
  | mk (k t : Int) (s : List UInt8) (n : Int) (l : List Nd)
mutual
def Nd.enc : Nd → List D
  | .mk k t s n l => [.int .i64 k, .int .i64 t, .str s, .int .i64 n, .sl (Nd.encs l)]
def Nd.encs : List Nd → List (List D)
  | [] => []
  | x :: l => Nd.enc x :: Nd.encs l
end
mutual
def Nd.cnt : Nd → Nat
  | .mk k t s n l => 1 + Nd.cnts l
def Nd.cnts : List Nd → Nat
  | [] => 0
  | x :: l => Nd.cnt x + Nd.cnts l
end
theorem enc_mk (k t : Int) (s : List UInt8) (n : Int) (l : List Nd) : Nd.enc (.mk k t s n l) = [.int .i64 k, .int .i64 t, .str s, .int .i64 n, .sl (Nd.encs l)] := by rw [Nd.enc]
theorem encs_nil : Nd.encs [] = [] := by rw [Nd.encs]
theorem encs_cons (x : Nd) (l : List Nd) : Nd.encs (x :: l) = Nd.enc x :: Nd.encs l := by rw [Nd.encs]
theorem encs_map : ∀ l : List Nd, Nd.encs l = l.map Nd.enc
  | [] => by rw [encs_nil]; rfl
  | x :: l => by rw [encs_cons, encs_map l]; rfl
theorem cnt_mk (k t : Int) (s : List UInt8) (n : Int) (l : List Nd) : Nd.cnt (.mk k t s n l) = 1 + Nd.cnts l := by rw [Nd.cnt]
theorem cnts_nil : Nd.cnts [] = 0 := by rw [Nd.cnts]
theorem cnts_cons (x : Nd) (l : List Nd) : Nd.cnts (x :: l) = Nd.cnt x + Nd.cnts l := by rw [Nd.cnts]
theorem cnt_pos (x : Nd) : 0 < x.cnt := by cases x; rw [cnt_mk]; omega
theorem cnts_mem : ∀ {l : List Nd} {x : Nd}, x ∈ l → x.cnt ≤ Nd.cnts l
  | y :: l, x, h => by
    rw [cnts_cons]
    rcases List.mem_cons.1 h with e | e
    · rw [e]; omega
    · have := cnts_mem e; omega
theorem cnt_kid {k t : Int} {s : List UInt8} {n : Int} {l : List Nd} {x : Nd} (h : x ∈ l) : x.cnt < Nd.cnt (.mk k t s n l) := by
  rw [cnt_mk]
  have := cnts_mem h
  omega
theorem cnts_app (l r : List Nd) : Nd.cnts (l ++ r) = Nd.cnts l + Nd.cnts r := by
  induction l with
  | nil => rw [List.nil_append, cnts_nil]; omega
  | cons x l ih => rw [List.cons_append, cnts_cons, cnts_cons, ih]; omega
theorem len_enc (x : Nd) : x.enc.length = 5 := by cases x; rw [enc_mk]; rfl
theorem enc_ok (x : Nd) : x.enc.all cellOk = true := by cases x; rw [enc_mk]; rfl
theorem enc_unnil (x : Nd) : x.enc.map unnil = x.enc := by cases x; rw [enc_mk]; rfl
theorem len_encs (l : List Nd) : (Nd.encs l).length = l.length := by rw [encs_map, List.length_map]
theorem encs_get {l : List Nd} {i : Nat} {x : Nd} (h : l[i]? = some x) : (Nd.encs l)[i]? = some x.enc := by rw [encs_map, List.getElem?_map, h]; rfl
theorem encs_app (l r : List Nd) : Nd.encs (l ++ r) = Nd.encs l ++ Nd.encs r := by rw [encs_map, encs_map, encs_map, List.map_append]
theorem encs_snoc (l : List Nd) (x : Nd) : Nd.encs l ++ [x.enc] = Nd.encs (l ++ [x]) := by rw [encs_app, encs_cons, encs_nil]
theorem Nd.ind {P : Nd → Prop} (h : ∀ x, (∀ y : Nd, y.cnt < x.cnt → P y) → P x) (x : Nd) : P x := by
  have key : ∀ n, ∀ x : Nd, x.cnt ≤ n → P x := by
    intro n
    induction n with
    | zero => intro x hx; have := cnt_pos x; omega
    | succ n ih => intro x hx; exact h x fun y hy => ih y (by omega)
  exact key _ x (Nat.le_refl _)
theorem map_inj_of {α β : Type} {f : α → β} : ∀ {l r : List α}, (∀ x ∈ l, ∀ y, f x = f y → x = y) → l.map f = r.map f → l = r
  | [], [], _, _ => rfl
  | [], _ :: _, _, h => by cases h
  | _ :: _, [], _, h => by cases h
  | x :: l, y :: r, hf, h => by
    simp only [List.map_cons, List.cons.injEq] at h
    rw [hf x (by simp) y h.1, map_inj_of (fun z hz => hf z (by simp [hz])) h.2]
theorem enc_inj : ∀ x y : Nd, x.enc = y.enc → x = y := by
  intro x
  induction x using Nd.ind with
  | h x ih =>
    intro y e
    obtain ⟨k, t, s, n, l⟩ := x
    obtain ⟨k', t', s', n', l'⟩ := y
    rw [enc_mk, enc_mk] at e
    simp only [List.cons.injEq, D.int.injEq, D.str.injEq, D.sl.injEq, true_and, and_true] at e
    obtain ⟨rfl, rfl, rfl, rfl, e⟩ := e
    rw [encs_map, encs_map] at e
    rw [map_inj_of (fun x hx y => ih x (cnt_kid hx) y) e]
theorem askE_encs {K : D → AHeap → Prop} {h : AHeap} {l : List Nd} {i : Nat} {x : Nd} (e : l[i]? = some x) : askE 5 K h (Nd.encs l) (i : Int) = K (.eptr x.enc 0) h := by
  have h1 := (List.getElem?_eq_some_iff.1 e).1
  have h2 : (0 ≤ (i : Int) ∧ (i : Int) < ((Nd.encs l).length : Int)) := by rw [len_encs]; omega
  simp only [askE, h2, Int.toNat_natCast, encs_get e, Option.some.injEq]
  apply propext
  constructor
  · intro k; exact (k.2 _ rfl).2
  · intro k; exact ⟨by simp, fun y hy => by rw [← hy]; exact ⟨len_enc x, k⟩⟩
theorem part_enc (x : Nd) : partD x.enc 0 (some 5) = some (.agg x.enc) := by
  have := len_enc x
  simp only [partD, List.drop_zero]
  rw [if_pos (by omega), List.take_of_length_le (by omega)]
theorem app_own {sz b r : Nat} {xs : List (List D)} {y : List D} {h : AHeap} {K : D → AHeap → Prop} (hr : xs ≠ [] → h.f r = some (.row sz (xs.length + 2) xs false)) (hy : y.length = sz ∧ y.all cellOk = true) (hb : 0 < b) (hn : (xs.length + 1) * b ≤ 140737488355328)
    (hk : ∀ r', (xs = [] → h.f r' = none) → (xs ≠ [] → r' = r) → K (ownD r' (xs.length + 1)) (h.set r' (.row sz (xs.length + 1 + 2) (xs ++ [y]) false))) : appK sz b (ownD r xs.length) h K (some [y]) := by
  by_cases h0 : xs = []
  · subst h0
    rw [List.length_nil, ownD_zero, app_nil]
    refine ⟨by simpa using hy, hb, by simp, by simpa using hn, fun _ id hid => ?_⟩
    have := hk id (fun _ => hid) (fun h => absurd rfl h)
    simpa [ownD] using this
  · have hl : xs.length ≠ 0 := fun h => h0 (List.length_eq_zero_iff.1 h)
    rw [ownD_pos hl, app_row, hr h0, appR_row]
    refine ⟨by simpa using hy, hb, rfl, rfl, rfl, rfl, by simpa using hn, ?_⟩
    have := hk r (fun h => absurd h h0) (fun _ => rfl)
    rw [ownD_pos (by omega)] at this
    have e : xs.length + 2 + [y].length = xs.length + 1 + 2 := by simp
    rw [e]
    exact this
end Go.Proofs.YtpagdhbmbnoddaaGreatDoor.Zz
namespace Go.Proofs.YtpagdhbmbnoddaaGreatDoor.Zz
theorem cnts_take {l : List Nd} {i : Nat} {x : Nd} (h : l[i]? = some x) : Nd.cnts (l.take (i + 1)) = Nd.cnts (l.take i) + x.cnt := by
  rw [List.take_add_one, h, cnts_app]; simp [cnts_cons, cnts_nil]
theorem cnts_len : ∀ l : List Nd, l.length ≤ Nd.cnts l
  | [] => Nat.zero_le _
  | x :: l => by have := cnts_len l; have := cnt_pos x; rw [cnts_cons, List.length_cons]; omega
theorem cnts_mem_le {l : List Nd} {x : Nd} (h : x ∈ l) : x.cnt ≤ Nd.cnts l := by
  induction l with
  | nil => cases h
  | cons y l ih =>
    rw [cnts_cons]
    rcases List.mem_cons.1 h with e | e
    · subst e; omega
    · have := ih e; omega
end Go.Proofs.YtpagdhbmbnoddaaGreatDoor.Zz
namespace Go.Proofs.YtpagdhbmbnoddaaGreatDoor.Zz
def Nd.kD : Nd → Int | .mk k _ _ _ _ => k
def Nd.tD : Nd → Int | .mk _ t _ _ _ => t
def Nd.sD : Nd → List UInt8 | .mk _ _ s _ _ => s
def Nd.lD : Nd → List Nd | .mk _ _ _ _ l => l
abbrev CR := Except Int
abbrev Scp := List (List UInt8 × Int)
def findS (sc : Scp) (s : List UInt8) : Option Int := (sc.find? fun p => p.1 == s).map (·.2)
def findK (ks : List Nd) (s : List UInt8) : Option Nd := ks.find? fun x => x.sD == s
def numT (t : Int) : Bool := t == 1 || t == 2
def isEx (k : Int) : Bool := decide (20 ≤ k) && decide (k ≤ 27)
def varF (ks : List Nd) (sc : Scp) (s : List UInt8) : CR Int :=
  match findS sc s with
  | some t => .ok t
  | none => match findK ks s with
    | some o => if o.kD == 2 then .ok o.tD else .error 121
    | none => .error 121
def binF (s : List UInt8) (a b : Int) : CR Int :=
  if a == b then
    if s == [43] || s == [45] || s == [42] || s == [47] then (if numT a then .ok a else .error 122)
    else if s == [37] then (if a == 1 then .ok a else .error 122)
    else if s == [60] || s == [60, 61] || s == [62] || s == [62, 61] then (if numT a then .ok 3 else .error 122)
    else if s == [38, 38] || s == [124, 124] then (if a == 3 then .ok 3 else .error 122)
    else if s == [61, 61] || s == [33, 61] then .ok 3 else .error 125
  else .error 122
def argsF : List Nd → List Nd → CR Unit
  | [], _ => .ok ()
  | _ :: _, [] => .error 0
  | a :: ar, b :: br => if a.tD == b.tD then argsF ar br else .error 122
def callF (ks : List Nd) (s : List UInt8) (args : List Nd) : CR Int :=
  match findK ks s with
  | none => .error 121
  | some f => if f.kD == 3 then (if args.length + 1 == f.lD.length then (match argsF args f.lD with | .ok _ => .ok f.tD | .error e => .error e) else .error 123) else .error 121
def typeF (ks : List Nd) (sc : Scp) (k t : Int) (s : List UInt8) (l : List Nd) : CR Int :=
  if k == 20 || k == 21 || k == 22 then (if l.length == 0 then .ok (1 + k - 20) else .error 125)
  else if k == 23 then (if l.length == 0 then varF ks sc s else .error 125)
  else if k == 24 then callF ks s l
  else if k == 27 then (match l with
    | [x] => if numT t then (if numT x.tD then .ok t else .error 122) else .error 125
    | _ => .error 125)
  else if k == 25 then (match l with
    | [x] => if s == [45] || s == [33] then (if (s == [45] && numT x.tD) || (s == [33] && x.tD == 3) then .ok x.tD else .error 122) else .error 125
    | _ => .error 125)
  else if k == 26 then (match l with
    | [x, y] => binF s x.tD y.tD
    | _ => .error 125)
  else .error 125
mutual
def exprF (ks : List Nd) (sc : Scp) : Nd → CR Nd
  | .mk k t s n l => match exprFs ks sc l with
    | .ok l' => match typeF ks sc k t s l' with
      | .ok t' => .ok (.mk k t' s n l')
      | .error e => .error e
    | .error e => .error e
def exprFs (ks : List Nd) (sc : Scp) : List Nd → CR (List Nd)
  | [] => .ok []
  | x :: l => if isEx x.kD then (match exprF ks sc x with
    | .ok x' => match exprFs ks sc l with
      | .ok l' => .ok (x' :: l')
      | .error e => .error e
    | .error e => .error e) else .error 125
end
def typedF (ks : List Nd) (sc : Scp) (x : Nd) (t : Int) : CR Nd :=
  if isEx x.kD then (match exprF ks sc x with
    | .ok x' => if x'.tD == t then .ok x' else .error 122
    | .error e => .error e) else .error 125
def defF (ks : List Nd) (sc : Scp) (s : List UInt8) (t : Int) : CR Scp :=
  if (findS sc s).isNone && (match findK ks s with | none => true | some o => o.kD != 2) then .ok (sc ++ [(s, t)]) else .error 120
mutual
def stmtF (ks : List Nd) (ans : Int) : Nd → Scp → CR (Nd × Scp)
  | .mk k t s n l, sc =>
    if k == 14 then (if l.length == 0 then .ok (.mk k t s n l, sc) else .error 125)
    else if k == 6 then (match stmtsF ks ans l sc with
      | .ok (l', _) => .ok (.mk k t s n l', sc)
      | .error e => .error e)
    else if k == 9 || k == 10 then (match l with
      | [] => .error 125
      | x :: r => if (k == 9 && (r.length == 1 || r.length == 2)) || (k == 10 && r.length == 1) then (match typedF ks sc x 3 with
        | .ok x' => match blocksF ks ans r sc with
          | .ok r' => .ok (.mk k t s n (x' :: r'), sc)
          | .error e => .error e
        | .error e => .error e) else .error 125)
    else if k == 11 then (match l with
      | [x] => if ans == 0 then .error 124 else (match typedF ks sc x ans with
        | .ok x' => .ok (.mk k t s n [x'], sc)
        | .error e => .error e)
      | _ => .error 125)
    else if k == 12 then (match l with
      | [x] => match typedF ks sc x 3 with
        | .ok x' => .ok (.mk k t s n [x'], sc)
        | .error e => .error e
      | _ => .error 125)
    else if k == 13 then (match l with
      | [x] => if x.kD == 24 then (match exprF ks sc x with
        | .ok x' => .ok (.mk k t s n [x'], sc)
        | .error e => .error e) else .error 125
      | _ => .error 125)
    else if k == 7 || k == 8 then (match l with
      | [x] => if isEx x.kD then (match exprF ks sc x with
        | .ok x' => if k == 7 then (match defF ks sc s x'.tD with
            | .ok sc' => .ok (.mk k t s n [x'], sc')
            | .error e => .error e)
          else (match varF ks sc s with
            | .ok t' => if t' == x'.tD then .ok (.mk k t s n [x'], sc) else .error 122
            | .error e => .error e)
        | .error e => .error e) else .error 125
      | _ => .error 125)
    else .error 125
def stmtsF (ks : List Nd) (ans : Int) : List Nd → Scp → CR (List Nd × Scp)
  | [], sc => .ok ([], sc)
  | x :: l, sc => match stmtF ks ans x sc with
    | .ok (x', sc') => match stmtsF ks ans l sc' with
      | .ok (l', sc'') => .ok (x' :: l', sc'')
      | .error e => .error e
    | .error e => .error e
def blocksF (ks : List Nd) (ans : Int) : List Nd → Scp → CR (List Nd)
  | [], _ => .ok []
  | .mk k t s n l :: r, sc => if k == 6 then (match stmtsF ks ans l sc with
    | .ok (l', _) => match blocksF ks ans r sc with
      | .ok r' => .ok (.mk k t s n l' :: r')
      | .error e => .error e
    | .error e => .error e) else .error 125
end
def blockF (ks : List Nd) (ans : Int) (x : Nd) (sc : Scp) : CR Nd :=
  if x.kD == 6 then (match stmtsF ks ans x.lD sc with
    | .ok (l', _) => .ok (.mk x.kD x.tD x.sD (match x with | .mk _ _ _ n _ => n) l')
    | .error e => .error e) else .error 125
mutual
def endsF : Nd → Bool
  | .mk _ _ _ _ l => endsL l
def endsL : List Nd → Bool
  | [] => false
  | [x] => endsS x
  | _ :: y :: l => endsL (y :: l)
def endsS : Nd → Bool
  | .mk k _ _ _ l =>
    if k == 11 then true
    else if k == 9 then (match l with
      | [_, a, b] => endsF a && endsF b
      | _ => false)
    else if k == 6 then endsL l
    else false
end
def tyOk (t : Int) : Bool := t == 1 || t == 2 || t == 3
def parsF (ks : List Nd) : List Nd → Scp → CR Scp
  | [], sc => .ok sc
  | x :: l, sc => if x.kD == 5 && tyOk x.tD then (if x.lD.length == 0 then (match defF ks sc x.sD x.tD with
    | .ok sc' => parsF ks l sc'
    | .error e => .error e) else .error 125) else .error 125
def declF (ks : List Nd) : Nd → CR Nd
  | .mk k t s n l =>
    if l.length == 0 then .error 125
    else if k == 2 then (match l with
      | [x] => if decide (20 ≤ x.kD) && decide (x.kD ≤ 22) then (match typedF ks [] x t with
        | .ok x' => .ok (.mk k t s n [x'])
        | .error e => .error e) else .error 125
      | _ => .error 125)
    else if k == 4 then (match l with
      | [x] => match blockF ks 0 x [] with
        | .ok x' => .ok (.mk k t s n [x'])
        | .error e => .error e
      | _ => .error 125)
    else if k == 3 && tyOk t then (match l.getLast? with
      | none => .error 125
      | some b => match parsF ks l.dropLast [] with
        | .ok sc => match blockF ks t b sc with
          | .ok b' => if endsF b then .ok (.mk k t s n (l.dropLast ++ [b'])) else .error 124
          | .error e => .error e
        | .error e => .error e)
    else .error 125
def declsF (ks : List Nd) : List Nd → List (List UInt8) → Int → CR (List Nd) × Int
  | [], _, i => (.ok [], i)
  | x :: l, ns, i => if ns.contains x.sD then (.error 120, i) else
    match declF ks x with
    | .error e => (.error e, i)
    | .ok x' => match declsF ks l (ns ++ [x.sD]) (i + 1) with
      | (.ok l', j) => (.ok (x' :: l'), j)
      | r => r
def checkF : Nd → Nd × Int × Int
  | .mk k t s n l => if k == 1 then (match declsF l l [] 0 with
    | (.ok l', _) => (.mk k t s n l', 0, 0)
    | (.error e, i) => (.mk 0 0 [] 0 [], i, e)) else (.mk 0 0 [] 0 [], 0, 125)
end Go.Proofs.YtpagdhbmbnoddaaGreatDoor.Zz
