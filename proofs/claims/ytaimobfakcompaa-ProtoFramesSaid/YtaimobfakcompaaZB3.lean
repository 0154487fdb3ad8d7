/- Contracts: readers; the decoder. -/
import Derived.Test.YtaimobfakcompaaZB2
namespace Go.Proofs.Ytaimobfakcompaa.Zz
set_option linter.unusedVariables false
set_option linter.unusedSimpArgs false

def p46 : Plan := ⟨⟨[], [], [], [], [], []⟩, []⟩
/-- cupel/wire.NewReader (1 parameters, 0 captured) -/
def s46 : Stm :=
  .seq (.ops [⟨.mov (.c .nilptr), (some 2), none, true⟩])
  (.seq (.ops [⟨.mov (.t 0), (some 3), none, true⟩,
     ⟨.build [(.str []), (.int .i64 0), (.int .i64 0)] [(0, 1, (.t 3))], (some 4), none, true⟩,
     ⟨.box (.t 4), (some 5), none, false⟩,
     ⟨.mov (.t 5), (some 2), none, true⟩])
  (.ret))
theorem st46 : stmOf Try.prog 46 p46 = some (s46, [.tmp 2], 6) := by kernel_rfl

def p70 : Plan := ⟨⟨[], [], [], [], [], []⟩, []⟩
/-- (*cupel/wire.Reader).Fail (2 parameters, 0 captured) -/
def s70 : Stm :=
  .seq (.ops [⟨.mov (.t 0), (some 4), none, true⟩,
     ⟨.eql .ptr true (.t 4) (.c .nilptr), (some 5), none, true⟩,
     ⟨.mov (.t 5), (some 6), none, true⟩,
     ⟨.mov (.t 0), (some 7), (some (6, true)), true⟩,
     ⟨.nilCheck (.t 7), (some 8), (some (6, true)), true⟩,
     ⟨.fieldAddr 2 (.t 8), (some 9), (some (6, true)), true⟩,
     ⟨.load none (.t 9), (some 10), (some (6, true)), false⟩,
     ⟨.bin .eql (.t 10) (.c (.int .i64 0)), (some 11), (some (6, true)), true⟩,
     ⟨.pick (.t 6) (.t 11) (.c (.bool false)), (some 12), none, true⟩,
     ⟨.mov (.t 12), (some 13), none, true⟩,
     ⟨.mov (.t 1), (some 14), (some (13, true)), true⟩,
     ⟨.bin .neq (.t 14) (.c (.int .i64 0)), (some 15), (some (13, true)), true⟩,
     ⟨.pick (.t 13) (.t 15) (.c (.bool false)), (some 16), none, true⟩])
  (.cond (.t 16)
   (.ops [⟨.mov (.t 0), (some 17), none, true⟩,
      ⟨.mov (.t 0), (some 18), none, true⟩,
      ⟨.mov (.t 1), (some 19), none, true⟩,
      ⟨.nilCheck (.t 17), (some 20), none, true⟩,
      ⟨.fieldAddr 0 (.t 20), (some 21), none, true⟩,
      ⟨.store 1 (.t 21) (.c (.str [])), none, none, false⟩,
      ⟨.nilCheck (.t 18), (some 22), none, true⟩,
      ⟨.fieldAddr 2 (.t 22), (some 23), none, true⟩,
      ⟨.store 1 (.t 23) (.t 19), none, none, false⟩])
   (.skip))
theorem st70 : stmOf Try.prog 70 p70 = some (s70, [], 24) := by kernel_rfl

def p71 : Plan := ⟨⟨[], [(4, 1), (6, 1)], [], [], [], []⟩, [(10, [0, 1, 2, 3, 4, 5, 6, 7, 8, 9, 10, 11, 12, 13, 14, 15, 16, 17, 18, 19])]⟩
/-- (*cupel/wire.Reader).Bytes (2 parameters, 0 captured) -/
def s71 : Stm :=
  .seq (.ops [⟨.mov (.c (.str [])), (some 4), none, true⟩])
  (.seq (.seq (.ops [⟨.mov (.t 0), (some 6), none, true⟩,
      ⟨.eql .ptr false (.t 6) (.c .nilptr), (some 7), none, true⟩])
   (.cond (.t 7)
    (.seq (.ops [⟨.mov (.c (.str [])), (some 4), none, true⟩])
     (.ret))
    (.skip)))
  (.seq (.seq (.ops [⟨.mov (.t 1), (some 8), none, true⟩,
      ⟨.bin .lss (.t 8) (.c (.int .i64 0)), (some 9), none, true⟩])
   (.cond (.t 9)
    (.ops [⟨.mov (.t 0), (some 10), none, true⟩,
       ⟨.call (.f 70) [(.t 10), (.c (.int .i64 1))], (some 11), none, false⟩])
    (.skip)))
  (.seq (.seq (.ops [⟨.mov (.t 1), (some 12), none, true⟩,
      ⟨.mov (.t 0), (some 13), none, true⟩,
      ⟨.nilCheck (.t 13), (some 14), none, true⟩,
      ⟨.fieldAddr 0 (.t 14), (some 15), none, true⟩,
      ⟨.load none (.t 15), (some 16), none, false⟩,
      ⟨.len .str (.t 16), (some 17), none, false⟩,
      ⟨.bin .gtr (.t 12) (.t 17), (some 18), none, true⟩])
   (.cond (.t 18)
    (.ops [⟨.mov (.t 0), (some 19), none, true⟩,
       ⟨.call (.f 70) [(.t 19), (.c (.int .i64 4))], (some 20), none, false⟩])
    (.skip)))
  (.seq (.seq (.ops [⟨.mov (.t 0), (some 21), none, true⟩,
      ⟨.nilCheck (.t 21), (some 22), none, true⟩,
      ⟨.fieldAddr 2 (.t 22), (some 23), none, true⟩,
      ⟨.load none (.t 23), (some 24), none, false⟩,
      ⟨.bin .neq (.t 24) (.c (.int .i64 0)), (some 25), none, true⟩])
   (.cond (.t 25)
    (.seq (.ops [⟨.mov (.c (.str [])), (some 4), none, true⟩])
     (.ret))
    (.skip)))
  (.seq (.ops [⟨.mov (.t 0), (some 26), none, true⟩,
     ⟨.nilCheck (.t 26), (some 27), none, true⟩,
     ⟨.fieldAddr 0 (.t 27), (some 28), none, true⟩,
     ⟨.load none (.t 28), (some 29), none, false⟩,
     ⟨.mov (.t 1), (some 30), none, true⟩,
     ⟨.slice .str (.t 29) none (some (.t 30)) none, (some 31), none, false⟩,
     ⟨.mov (.t 31), (some 5), none, true⟩])
  (.seq (.ops [⟨.mov (.t 0), (some 32), none, true⟩,
     ⟨.mov (.t 0), (some 33), none, true⟩,
     ⟨.mov (.t 0), (some 34), none, true⟩,
     ⟨.nilCheck (.t 34), (some 35), none, true⟩,
     ⟨.fieldAddr 0 (.t 35), (some 36), none, true⟩,
     ⟨.load none (.t 36), (some 37), none, false⟩,
     ⟨.mov (.t 1), (some 38), none, true⟩,
     ⟨.slice .str (.t 37) (some (.t 38)) none none, (some 39), none, true⟩,
     ⟨.mov (.t 0), (some 40), none, true⟩,
     ⟨.nilCheck (.t 40), (some 41), none, true⟩,
     ⟨.fieldAddr 1 (.t 41), (some 42), none, true⟩,
     ⟨.load none (.t 42), (some 43), none, false⟩,
     ⟨.mov (.t 1), (some 44), none, true⟩,
     ⟨.bin .add (.t 43) (.t 44), (some 45), none, true⟩,
     ⟨.nilCheck (.t 32), (some 46), none, true⟩,
     ⟨.fieldAddr 0 (.t 46), (some 47), none, true⟩,
     ⟨.store 1 (.t 47) (.t 39), none, none, false⟩,
     ⟨.nilCheck (.t 33), (some 48), none, true⟩,
     ⟨.fieldAddr 1 (.t 48), (some 49), none, true⟩,
     ⟨.store 1 (.t 49) (.t 45), none, none, false⟩])
  (.seq (.ops [⟨.mov (.t 5), (some 50), none, true⟩,
     ⟨.mov (.t 50), (some 4), none, true⟩])
  (.ret))))))))
theorem st71 : stmOf Try.prog 71 p71 = some (s71, [.tmp 4], 51) := by kernel_rfl

def p47 : Plan := ⟨⟨[], [(2, 1), (4, 2)], [], [], [], []⟩, []⟩
/-- (*cupel/wire.Reader).Number (2 parameters, 0 captured) -/
def s47 : Stm :=
  .seq (.ops [⟨.mov (.c (.int .u64 0)), (some 4), none, true⟩])
  (.seq (.seq (.ops [⟨.mov (.t 1), (some 9), none, true⟩,
      ⟨.bin .gtr (.t 9) (.c (.int .i64 8)), (some 10), none, true⟩])
   (.cond (.t 10)
    (.ops [⟨.mov (.t 0), (some 11), none, true⟩,
       ⟨.call (.f 70) [(.t 11), (.c (.int .i64 1))], (some 12), none, false⟩])
    (.skip)))
  (.seq (.ops [⟨.mov (.c (.int .u64 0)), (some 5), none, true⟩,
     ⟨.mov (.c (.int .i64 0)), (some 6), none, true⟩])
  (.seq (.seq (.ops [⟨.mov (.t 0), (some 13), none, true⟩,
      ⟨.mov (.t 1), (some 14), none, true⟩,
      ⟨.call (.f 71) [(.t 13), (.t 14)], (some 15), none, false⟩,
      ⟨.conv .strBytes (.t 15), (some 16), none, true⟩,
      ⟨.len .sl (.t 16), (some 17), none, false⟩,
      ⟨.mov (.c (.int .i64 0)), (some 18), none, true⟩])
   (.block 0 (.loop (.seq (.ops [⟨.bin .lss (.t 18) (.t 17), (some 19), none, true⟩])
     (.seq (.cond (.t 19)
       (.skip)
       (.exit 0))
     (.seq (.block 1 (.seq (.ops [⟨.indexAddrS 1 (.t 16) (.t 18), (some 20), none, false⟩,
          ⟨.load none (.t 20), (some 21), none, false⟩,
          ⟨.mov (.t 21), (some 8), none, true⟩])
       (.seq (.ops [⟨.mov (.t 5), (some 22), none, true⟩,
          ⟨.mov (.t 8), (some 23), none, true⟩,
          ⟨.conv (.intInt .u64) (.t 23), (some 24), none, true⟩,
          ⟨.mov (.t 6), (some 25), none, true⟩,
          ⟨.bin .shl (.t 24) (.t 25), (some 26), none, true⟩,
          ⟨.bin .or (.t 22) (.t 26), (some 27), none, true⟩,
          ⟨.mov (.t 27), (some 5), none, true⟩])
       (.ops [⟨.mov (.t 6), (some 28), none, true⟩,
         ⟨.bin .add (.t 28) (.c (.int .i64 8)), (some 29), none, true⟩,
         ⟨.mov (.t 29), (some 6), none, true⟩]))))
     (.ops [⟨.bin .add (.t 18) (.c (.int .i64 1)), (some 30), none, true⟩,
       ⟨.mov (.t 30), (some 18), none, true⟩])))))))
  (.seq (.ops [⟨.mov (.t 5), (some 31), none, true⟩,
     ⟨.mov (.t 31), (some 4), none, true⟩])
  (.ret)))))
theorem st47 : stmOf Try.prog 47 p47 = some (s47, [.tmp 4], 32) := by kernel_rfl

def tb46 : Tab := Tab.zero.addS 46 s46 [.tmp 2] 6
theorem tb46_q : tb46.q = Tab.zero.q := rfl
theorem tb46_a : tb46.a = Tab.zero.a := rfl
theorem tb46_c (g : FuncId) (args : List D) (h : AHeap) (K E : D → AHeap → Prop) : tb46.c g args h K E = if g = 46 then (args.length ≤ 6 ∧ vc Tab.zero s46 (todo Tab.zero (retS [.tmp 2] K) (panS E) []) (panS E) (argFr args) h) else Tab.zero.c g args h K E := rfl
theorem tb46_ok : tb46.ok Try.prog := Tab.addS_ok (Tab.zero_ok _) st46

def tb70 : Tab := tb46.addS 70 s70 [] 24
theorem tb70_q : tb70.q = tb46.q := rfl
theorem tb70_a : tb70.a = tb46.a := rfl
theorem tb70_c (g : FuncId) (args : List D) (h : AHeap) (K E : D → AHeap → Prop) : tb70.c g args h K E = if g = 70 then (args.length ≤ 24 ∧ vc tb46 s70 (todo tb46 (retS [] K) (panS E) []) (panS E) (argFr args) h) else tb46.c g args h K E := rfl
theorem tb70_ok : tb70.ok Try.prog := Tab.addS_ok tb46_ok st70

def tb71 : Tab := tb70.addS 71 s71 [.tmp 4] 51
theorem tb71_q : tb71.q = tb70.q := rfl
theorem tb71_a : tb71.a = tb70.a := rfl
theorem tb71_c (g : FuncId) (args : List D) (h : AHeap) (K E : D → AHeap → Prop) : tb71.c g args h K E = if g = 71 then (args.length ≤ 51 ∧ vc tb70 s71 (todo tb70 (retS [.tmp 4] K) (panS E) []) (panS E) (argFr args) h) else tb70.c g args h K E := rfl
theorem tb71_ok : tb71.ok Try.prog := Tab.addS_ok tb70_ok st71


/-- A number out of its bytes, the lowest first. -/
def unLe : List UInt8 → Nat
  | [] => 0
  | b :: s => b.toNat + 256 * unLe s

theorem unLe_lt : ∀ s : List UInt8, unLe s < 256 ^ s.length
  | [] => by simp [unLe]
  | b :: s => by
    have := unLe_lt s
    have hb := b.toNat_lt
    simp only [unLe, List.length_cons, Nat.pow_succ]
    omega
theorem unLe_snoc (s : List UInt8) (b : UInt8) : unLe (s ++ [b]) = unLe s + b.toNat * 256 ^ s.length := by
  induction s with
  | nil => simp [unLe]
  | cons c s ih =>
    simp only [List.cons_append, unLe, ih, List.length_cons, Nat.pow_succ]
    rw [Nat.mul_add, Nat.mul_left_comm 256 b.toNat, Nat.mul_comm 256 (256 ^ s.length), Nat.add_assoc]
theorem unLe_take (s : List UInt8) (i : Nat) (hi : i < s.length) : unLe (s.take (i + 1)) = unLe (s.take i) + (s.getD i 0).toNat * 256 ^ i := by
  rw [List.take_succ_eq_append_getElem hi, unLe_snoc]
  simp [List.getD, hi, Nat.min_eq_left (Nat.le_of_lt hi)]

/-- What is left of a reader's bytes, how many were taken, its error. -/
theorem readNumber_c (h : AHeap) (id : Nat) (s : List UInt8) (k : Int) (m : Nat) (hid : h.f id = some (.cells [.str s, .int .i64 k, .int .i64 0])) (hm : m ≤ s.length) (h8 : m ≤ 8) :
    ACalls Try.prog 47 [.ptr id 1 0, .int .i64 m] h fun o h' => ∃ d, o = .ret d ∧ d = .int .u64 (unLe (s.take m) : Nat) ∧ h' = h.set id (.cells [.str (s.drop m), .int .i64 (IntKind.i64.wrap (k + m)), .int .i64 0]) := by
  refine ACalls.run tb71_ok st47 (by simp) fun E => ?_
  have e1 : ((m : Int) > (s.length : Int)) = False := by simp; omega
  have e2 : ((m : Int) > 8) = False := by simp; omega
  have e3 : ((m : Int) < 0) = False := by simp
  have e4 : (s.drop m).take (s.length - m) = s.drop m := List.take_of_length_le (by simp)
  have e5 : (s.take m).length = m := by simp; omega
  simp (config := {contextual := true}) only [s47, s71, hid, e1, e2, e3, e4, e5, tb46_q, tb46_a, tb46_c, tb70_q, tb70_a, tb70_c, tb71_q, tb71_a, tb71_c, ↓reduceIte, Nat.reduceEqDiff, Nat.reduceBEq, Int.reduceLT, Int.reduceLE, Int.reduceToNat, Int.reduceEq, Int.reduceAdd, Int.reduceSub, Int.reduceMul, Int.reduceNeg, Nat.reduceMul, Nat.reduceSub, Nat.reduceLeDiff, Nat.reduceLT, Int.reduceGT, Int.reduceBEq, Int.reduceBNe, Int.cast_ofNat_Int, Int.toNat_zero, forall_eq', run_skip, run_exit, run_ret, run_seq, run_block, run_cond, pickC_true, pickC_false, pickC_bool, todo_stm, todo_stm_ret, todo_stm_exit, todo_blk, todo_blk_ret, todo_blk_exit, todo_lp, todo_lp_ret, todo_lp_exit, todo_nil, vcOps_nil, vc_ops, kont_app, ask_some, ask_none, ask_ite, ask_ite_none, askH_some, askH_none, askH_ite, op_p, op_n, op_g, guard_tt, guard_ff, guard_tf, guard_ft, guard_t, guard_f, guard_no, i_alloc, i_box, i_bs, i_load, i_loadOf, i_callA, i_store, i_storeNe, fresh_ite, encB_nil, and_imp, i_str_row, strRow_enc, i_str_sl, i_str_nil, i_str_one, i_slice_row, i_slice_str, i_slice_sl, i_slice_ptr, i_index_row, i_index_any, askE_enc, i_index_csl, i_len_str, i_len_arr, i_len_nil, i_len_sl, i_len_row, i_len_csl, i_makeSlice, i_call, i_qcall, i_panic, i_append, srcOf_str, srcOf_sl, app_nil, app_row, appR_row, enc_cells, v_mov, v_pick, v_build, v_bs, v_nc_ptr, v_nc_eptr, v_nc_rptr, v_nc_func, v_bin, v_eql, v_un, v_intInt, v_intFloat, v_same, v_strBytes, v_slice, v_fa_ptr, v_fa_eptr, v_fa_rptr, v_field, v_ia_ptr, v_ia_eptr, v_ia_rptr, v_indexA, v_indexS, v_is_enc, v_is_csl, v_extract, v_mkIface, v_mkFunc, v_max, v_min, v_len0, Ins.map, Fr.ev, Fr.put_some, Fr.put_none, Fr.put_defs, argFr, argE, binEv, intEv, shEv, strEv, unEv, Fr.mark, evRes, tup, retP_iff, retN_iff, retS_ret, retS_normal, retF_ret, retF_normal, bounds_nn, bounds_ns, bounds_sn, bounds_ss, slice_str, map_ite, ex_ite, lenD, mkFr_env, mkFr_defs, leL_nil, leL_cons, List.replicate_succ, List.replicate_zero, List.forall_mem_cons, List.not_mem_nil, Nat.zero_lt_succ, Nat.lt_add_one, enc_all, enc_dec, enc_append, enc_take, enc_drop, len_encB, AHeap.set_set, Int.toNat_natCast, lookupD, loadD, partD, storeD, cellsD, cellOk, setAt, plain_undef, frz_undef, plain_bool, frz_bool, plain_int, frz_int, plain_float, frz_float, plain_str, frz_str, plain_nilptr, frz_nilptr, plain_ptr, frz_ptr, plain_eptr, frz_eptr, plain_rptr, frz_rptr, plain_sl, frz_sl, plain_csl, frz_csl, plain_tuple, frz_tuple, plain_func, frz_func, plain_nilfunc, frz_nilfunc, plain_iface, frz_iface, plain_nilif, frz_nilif, plain_map, frz_map, plain_nilmap, frz_nilmap, plC_undef, plC_bool, plC_int, plC_float, plC_str, plC_nilptr, plC_ptr, plC_eptr, plC_rptr, plC_sl, plC_csl, plC_tuple, plC_func, plC_nilfunc, plC_iface, plC_nilif, plC_map, plC_nilmap, plain_nilsl, frz_nilsl, plain_row, plR_row, frz_row, frzR_row, frzL_nil, frzL_cons, plain_agg', plC_nilsl, plC_row, frza_nil, frza_row, frza_undef, frza_bool, frza_int, frza_float, frza_str, frza_nilptr, frza_ptr, frza_eptr, frza_rptr, frza_nilsl, frza_sl, frza_csl, frza_func, frza_nilfunc, frza_iface, frza_nilif, frza_map, frza_nilmap, objNe, objSame, eqEv, readEv, buildD, buildRows, rowsOf, elemsOf, AHeap.set_f, AHeap.emp_f, Option.map_some, Option.map_none, Option.some.injEq, exists_eq_left', exists_eq_left, true_and, and_true, List.map_cons, List.map_nil, List.append_nil, List.nil_append, List.cons_append, List.foldl_cons, List.foldl_nil, List.all_cons, List.all_nil, Bool.and_true, Bool.and_self, Bool.true_and, List.length_cons, List.length_nil, List.getElem?_cons_zero, List.getElem?_cons_succ, List.set_cons_zero, List.set_cons_succ, forall_const, reduceCtorEq, false_implies, implies_true, true_implies, Bool.not_true, Bool.not_false, decide_eq_true_eq, decide_eq_false_iff_not, Bool.true_eq_false, Bool.false_eq_true, AOut.ret.injEq, Nat.zero_add, Nat.add_zero, Nat.reduceAdd, beq_self_eq_true, bne_self_eq_false, cond_true, cond_false, List.drop_zero, Nat.sub_zero, D.int.injEq, D.str.injEq, D.bool.injEq, D.tuple.injEq, D.agg.injEq, D.sl.injEq, List.cons.injEq, or_true, true_or, or_false, false_or, and_self, not_true_eq_false, not_false_eq_true, ne_eq]
  intro hl
  refine ⟨by omega, by omega, fun hm2 => ?_⟩
  have hlt := unLe_lt (s.take m)
  refine run_loop (X := Nat) (fun i => [(5, .int .u64 (unLe ((s.take m).take i) : Nat)), (6, .int .i64 (8 * i : Nat)), (16, .sl (encB (s.take m))), (17, .int .i64 m), (18, .int .i64 i)])
    (fun i => h.set id (.cells [.str (s.drop m), .int .i64 (IntKind.i64.wrap (k + m)), .int .i64 0])) (fun i => m - i) (fun i => i ≤ m) 0 (Nat.zero_le _) ?_ ?_ ?_
  · simp only [↓reduceIte, Nat.reduceEqDiff, Nat.reduceBEq, Int.reduceLT, Int.reduceLE, Int.reduceToNat, Int.reduceEq, Int.reduceAdd, Int.reduceSub, Int.reduceMul, Int.reduceNeg, Nat.reduceMul, Nat.reduceSub, Nat.reduceLeDiff, Nat.reduceLT, Int.reduceGT, Int.reduceBEq, Int.reduceBNe, Int.cast_ofNat_Int, Int.toNat_zero, forall_eq', run_skip, run_exit, run_ret, run_seq, run_block, run_cond, pickC_true, pickC_false, pickC_bool, todo_stm, todo_stm_ret, todo_stm_exit, todo_blk, todo_blk_ret, todo_blk_exit, todo_lp, todo_lp_ret, todo_lp_exit, todo_nil, vcOps_nil, vc_ops, kont_app, ask_some, ask_none, ask_ite, ask_ite_none, askH_some, askH_none, askH_ite, op_p, op_n, op_g, guard_tt, guard_ff, guard_tf, guard_ft, guard_t, guard_f, guard_no, i_alloc, i_box, i_bs, i_load, i_loadOf, i_callA, i_store, i_storeNe, fresh_ite, encB_nil, and_imp, i_str_row, strRow_enc, i_str_sl, i_str_nil, i_str_one, i_slice_row, i_slice_str, i_slice_sl, i_slice_ptr, i_index_row, i_index_any, askE_enc, i_index_csl, i_len_str, i_len_arr, i_len_nil, i_len_sl, i_len_row, i_len_csl, i_makeSlice, i_call, i_qcall, i_panic, i_append, srcOf_str, srcOf_sl, app_nil, app_row, appR_row, enc_cells, v_mov, v_pick, v_build, v_bs, v_nc_ptr, v_nc_eptr, v_nc_rptr, v_nc_func, v_bin, v_eql, v_un, v_intInt, v_intFloat, v_same, v_strBytes, v_slice, v_fa_ptr, v_fa_eptr, v_fa_rptr, v_field, v_ia_ptr, v_ia_eptr, v_ia_rptr, v_indexA, v_indexS, v_is_enc, v_is_csl, v_extract, v_mkIface, v_mkFunc, v_max, v_min, v_len0, Ins.map, Fr.ev, Fr.put_some, Fr.put_none, Fr.put_defs, argFr, argE, binEv, intEv, shEv, strEv, unEv, Fr.mark, evRes, tup, retP_iff, retN_iff, retS_ret, retS_normal, retF_ret, retF_normal, bounds_nn, bounds_ns, bounds_sn, bounds_ss, slice_str, map_ite, ex_ite, lenD, mkFr_env, mkFr_defs, leL_nil, leL_cons, List.replicate_succ, List.replicate_zero, List.forall_mem_cons, List.not_mem_nil, Nat.zero_lt_succ, Nat.lt_add_one, enc_all, enc_dec, enc_append, enc_take, enc_drop, len_encB, AHeap.set_set, Int.toNat_natCast, lookupD, loadD, partD, storeD, cellsD, cellOk, setAt, plain_undef, frz_undef, plain_bool, frz_bool, plain_int, frz_int, plain_float, frz_float, plain_str, frz_str, plain_nilptr, frz_nilptr, plain_ptr, frz_ptr, plain_eptr, frz_eptr, plain_rptr, frz_rptr, plain_sl, frz_sl, plain_csl, frz_csl, plain_tuple, frz_tuple, plain_func, frz_func, plain_nilfunc, frz_nilfunc, plain_iface, frz_iface, plain_nilif, frz_nilif, plain_map, frz_map, plain_nilmap, frz_nilmap, plC_undef, plC_bool, plC_int, plC_float, plC_str, plC_nilptr, plC_ptr, plC_eptr, plC_rptr, plC_sl, plC_csl, plC_tuple, plC_func, plC_nilfunc, plC_iface, plC_nilif, plC_map, plC_nilmap, plain_nilsl, frz_nilsl, plain_row, plR_row, frz_row, frzR_row, frzL_nil, frzL_cons, plain_agg', plC_nilsl, plC_row, frza_nil, frza_row, frza_undef, frza_bool, frza_int, frza_float, frza_str, frza_nilptr, frza_ptr, frza_eptr, frza_rptr, frza_nilsl, frza_sl, frza_csl, frza_func, frza_nilfunc, frza_iface, frza_nilif, frza_map, frza_nilmap, objNe, objSame, eqEv, readEv, buildD, buildRows, rowsOf, elemsOf, AHeap.set_f, AHeap.emp_f, Option.map_some, Option.map_none, Option.some.injEq, exists_eq_left', exists_eq_left, true_and, and_true, List.map_cons, List.map_nil, List.append_nil, List.nil_append, List.cons_append, List.foldl_cons, List.foldl_nil, List.all_cons, List.all_nil, Bool.and_true, Bool.and_self, Bool.true_and, List.length_cons, List.length_nil, List.getElem?_cons_zero, List.getElem?_cons_succ, List.set_cons_zero, List.set_cons_succ, forall_const, reduceCtorEq, false_implies, implies_true, true_implies, Bool.not_true, Bool.not_false, decide_eq_true_eq, decide_eq_false_iff_not, Bool.true_eq_false, Bool.false_eq_true, AOut.ret.injEq, Nat.zero_add, Nat.add_zero, Nat.reduceAdd, beq_self_eq_true, bne_self_eq_false, cond_true, cond_false, List.drop_zero, Nat.sub_zero, D.int.injEq, D.str.injEq, D.bool.injEq, D.tuple.injEq, D.agg.injEq, D.sl.injEq, List.cons.injEq, or_true, true_or, or_false, false_or, and_self, not_true_eq_false, not_false_eq_true, ne_eq]
    simp [unLe]
  · exact AHeap.sub_refl _
  · intro i Q hi hQ
    by_cases h1 : i < m
    · have hb := ((s.take m).getD i 0).toNat_lt
      have e6 := shl_byte (b := ((s.take m).getD i 0).toNat) (i := i) (by omega) (by omega)
      have e7 : ((i : Int) < (m : Int)) = True := by simp; omega
      have p1 := unLe_lt ((s.take m).take i)
      have p2 : ((s.take m).take i).length = i := by simp; omega
      rw [p2] at p1
      have p3 := unLe_lt ((s.take m).take (i + 1))
      have p4 : ((s.take m).take (i + 1)).length = i + 1 := by simp; omega
      rw [p4] at p3
      have p5 : 256 ^ (i + 1) ≤ 256 ^ 8 := Nat.pow_le_pow_right (by omega) (by omega)
      have p6 := unLe_take (s.take m) i (by omega)
      have e8 := or_u64 (a := unLe ((s.take m).take i)) (b := ((s.take m).getD i 0).toNat * 256 ^ i) (by omega) (by omega)
      have e9 : 256 ^ i = 2 ^ (8 * i) := by rw [show (256 : Nat) = 2 ^ 8 from rfl, ← Nat.pow_mul]
      have e10 : unLe ((s.take m).take i) ||| ((s.take m).getD i 0).toNat * 256 ^ i = unLe ((s.take m).take (i + 1)) := by rw [p6, e9]; exact or_add (by rw [← e9]; exact p1)
      rw [e10] at e8
      simp (config := {decide := false}) only [e6, e7, e8, ↓reduceIte, Nat.reduceEqDiff, Nat.reduceBEq, Int.reduceLT, Int.reduceLE, Int.reduceToNat, Int.reduceEq, Int.reduceAdd, Int.reduceSub, Int.reduceMul, Int.reduceNeg, Nat.reduceMul, Nat.reduceSub, Nat.reduceLeDiff, Nat.reduceLT, Int.reduceGT, Int.reduceBEq, Int.reduceBNe, Int.cast_ofNat_Int, Int.toNat_zero, forall_eq', run_skip, run_exit, run_ret, run_seq, run_block, run_cond, pickC_true, pickC_false, pickC_bool, todo_stm, todo_stm_ret, todo_stm_exit, todo_blk, todo_blk_ret, todo_blk_exit, todo_lp, todo_lp_ret, todo_lp_exit, todo_nil, vcOps_nil, vc_ops, kont_app, ask_some, ask_none, ask_ite, ask_ite_none, askH_some, askH_none, askH_ite, op_p, op_n, op_g, guard_tt, guard_ff, guard_tf, guard_ft, guard_t, guard_f, guard_no, i_alloc, i_box, i_bs, i_load, i_loadOf, i_callA, i_store, i_storeNe, fresh_ite, encB_nil, and_imp, i_str_row, strRow_enc, i_str_sl, i_str_nil, i_str_one, i_slice_row, i_slice_str, i_slice_sl, i_slice_ptr, i_index_row, i_index_any, askE_enc, i_index_csl, i_len_str, i_len_arr, i_len_nil, i_len_sl, i_len_row, i_len_csl, i_makeSlice, i_call, i_qcall, i_panic, i_append, srcOf_str, srcOf_sl, app_nil, app_row, appR_row, enc_cells, v_mov, v_pick, v_build, v_bs, v_nc_ptr, v_nc_eptr, v_nc_rptr, v_nc_func, v_bin, v_eql, v_un, v_intInt, v_intFloat, v_same, v_strBytes, v_slice, v_fa_ptr, v_fa_eptr, v_fa_rptr, v_field, v_ia_ptr, v_ia_eptr, v_ia_rptr, v_indexA, v_indexS, v_is_enc, v_is_csl, v_extract, v_mkIface, v_mkFunc, v_max, v_min, v_len0, Ins.map, Fr.ev, Fr.put_some, Fr.put_none, Fr.put_defs, argFr, argE, binEv, intEv, shEv, strEv, unEv, Fr.mark, evRes, tup, retP_iff, retN_iff, retS_ret, retS_normal, retF_ret, retF_normal, bounds_nn, bounds_ns, bounds_sn, bounds_ss, slice_str, map_ite, ex_ite, lenD, mkFr_env, mkFr_defs, leL_nil, leL_cons, List.replicate_succ, List.replicate_zero, List.forall_mem_cons, List.not_mem_nil, Nat.zero_lt_succ, Nat.lt_add_one, enc_all, enc_dec, enc_append, enc_take, enc_drop, len_encB, AHeap.set_set, Int.toNat_natCast, lookupD, loadD, partD, storeD, cellsD, cellOk, setAt, plain_undef, frz_undef, plain_bool, frz_bool, plain_int, frz_int, plain_float, frz_float, plain_str, frz_str, plain_nilptr, frz_nilptr, plain_ptr, frz_ptr, plain_eptr, frz_eptr, plain_rptr, frz_rptr, plain_sl, frz_sl, plain_csl, frz_csl, plain_tuple, frz_tuple, plain_func, frz_func, plain_nilfunc, frz_nilfunc, plain_iface, frz_iface, plain_nilif, frz_nilif, plain_map, frz_map, plain_nilmap, frz_nilmap, plC_undef, plC_bool, plC_int, plC_float, plC_str, plC_nilptr, plC_ptr, plC_eptr, plC_rptr, plC_sl, plC_csl, plC_tuple, plC_func, plC_nilfunc, plC_iface, plC_nilif, plC_map, plC_nilmap, plain_nilsl, frz_nilsl, plain_row, plR_row, frz_row, frzR_row, frzL_nil, frzL_cons, plain_agg', plC_nilsl, plC_row, frza_nil, frza_row, frza_undef, frza_bool, frza_int, frza_float, frza_str, frza_nilptr, frza_ptr, frza_eptr, frza_rptr, frza_nilsl, frza_sl, frza_csl, frza_func, frza_nilfunc, frza_iface, frza_nilif, frza_map, frza_nilmap, objNe, objSame, eqEv, readEv, buildD, buildRows, rowsOf, elemsOf, AHeap.set_f, AHeap.emp_f, Option.map_some, Option.map_none, Option.some.injEq, exists_eq_left', exists_eq_left, true_and, and_true, List.map_cons, List.map_nil, List.append_nil, List.nil_append, List.cons_append, List.foldl_cons, List.foldl_nil, List.all_cons, List.all_nil, Bool.and_true, Bool.and_self, Bool.true_and, List.length_cons, List.length_nil, List.getElem?_cons_zero, List.getElem?_cons_succ, List.set_cons_zero, List.set_cons_succ, forall_const, reduceCtorEq, false_implies, implies_true, true_implies, Bool.not_true, Bool.not_false, decide_eq_true_eq, decide_eq_false_iff_not, Bool.true_eq_false, Bool.false_eq_true, AOut.ret.injEq, Nat.zero_add, Nat.add_zero, Nat.reduceAdd, beq_self_eq_true, bne_self_eq_false, cond_true, cond_false, List.drop_zero, Nat.sub_zero, D.int.injEq, D.str.injEq, D.bool.injEq, D.tuple.injEq, D.agg.injEq, D.sl.injEq, List.cons.injEq, or_true, true_or, or_false, false_or, and_self, not_true_eq_false, not_false_eq_true, ne_eq]
      refine ⟨⟨by omega, by omega⟩, by omega, ?_⟩
      refine hQ (i + 1) _ _ (by omega) ?_ (AHeap.sub_refl _) (by omega)
      simp only [↓reduceIte, Nat.reduceEqDiff, Nat.reduceBEq, Int.reduceLT, Int.reduceLE, Int.reduceToNat, Int.reduceEq, Int.reduceAdd, Int.reduceSub, Int.reduceMul, Int.reduceNeg, Nat.reduceMul, Nat.reduceSub, Nat.reduceLeDiff, Nat.reduceLT, Int.reduceGT, Int.reduceBEq, Int.reduceBNe, Int.cast_ofNat_Int, Int.toNat_zero, forall_eq', run_skip, run_exit, run_ret, run_seq, run_block, run_cond, pickC_true, pickC_false, pickC_bool, todo_stm, todo_stm_ret, todo_stm_exit, todo_blk, todo_blk_ret, todo_blk_exit, todo_lp, todo_lp_ret, todo_lp_exit, todo_nil, vcOps_nil, vc_ops, kont_app, ask_some, ask_none, ask_ite, ask_ite_none, askH_some, askH_none, askH_ite, op_p, op_n, op_g, guard_tt, guard_ff, guard_tf, guard_ft, guard_t, guard_f, guard_no, i_alloc, i_box, i_bs, i_load, i_loadOf, i_callA, i_store, i_storeNe, fresh_ite, encB_nil, and_imp, i_str_row, strRow_enc, i_str_sl, i_str_nil, i_str_one, i_slice_row, i_slice_str, i_slice_sl, i_slice_ptr, i_index_row, i_index_any, askE_enc, i_index_csl, i_len_str, i_len_arr, i_len_nil, i_len_sl, i_len_row, i_len_csl, i_makeSlice, i_call, i_qcall, i_panic, i_append, srcOf_str, srcOf_sl, app_nil, app_row, appR_row, enc_cells, v_mov, v_pick, v_build, v_bs, v_nc_ptr, v_nc_eptr, v_nc_rptr, v_nc_func, v_bin, v_eql, v_un, v_intInt, v_intFloat, v_same, v_strBytes, v_slice, v_fa_ptr, v_fa_eptr, v_fa_rptr, v_field, v_ia_ptr, v_ia_eptr, v_ia_rptr, v_indexA, v_indexS, v_is_enc, v_is_csl, v_extract, v_mkIface, v_mkFunc, v_max, v_min, v_len0, Ins.map, Fr.ev, Fr.put_some, Fr.put_none, Fr.put_defs, argFr, argE, binEv, intEv, shEv, strEv, unEv, Fr.mark, evRes, tup, retP_iff, retN_iff, retS_ret, retS_normal, retF_ret, retF_normal, bounds_nn, bounds_ns, bounds_sn, bounds_ss, slice_str, map_ite, ex_ite, lenD, mkFr_env, mkFr_defs, leL_nil, leL_cons, List.replicate_succ, List.replicate_zero, List.forall_mem_cons, List.not_mem_nil, Nat.zero_lt_succ, Nat.lt_add_one, enc_all, enc_dec, enc_append, enc_take, enc_drop, len_encB, AHeap.set_set, Int.toNat_natCast, lookupD, loadD, partD, storeD, cellsD, cellOk, setAt, plain_undef, frz_undef, plain_bool, frz_bool, plain_int, frz_int, plain_float, frz_float, plain_str, frz_str, plain_nilptr, frz_nilptr, plain_ptr, frz_ptr, plain_eptr, frz_eptr, plain_rptr, frz_rptr, plain_sl, frz_sl, plain_csl, frz_csl, plain_tuple, frz_tuple, plain_func, frz_func, plain_nilfunc, frz_nilfunc, plain_iface, frz_iface, plain_nilif, frz_nilif, plain_map, frz_map, plain_nilmap, frz_nilmap, plC_undef, plC_bool, plC_int, plC_float, plC_str, plC_nilptr, plC_ptr, plC_eptr, plC_rptr, plC_sl, plC_csl, plC_tuple, plC_func, plC_nilfunc, plC_iface, plC_nilif, plC_map, plC_nilmap, plain_nilsl, frz_nilsl, plain_row, plR_row, frz_row, frzR_row, frzL_nil, frzL_cons, plain_agg', plC_nilsl, plC_row, frza_nil, frza_row, frza_undef, frza_bool, frza_int, frza_float, frza_str, frza_nilptr, frza_ptr, frza_eptr, frza_rptr, frza_nilsl, frza_sl, frza_csl, frza_func, frza_nilfunc, frza_iface, frza_nilif, frza_map, frza_nilmap, objNe, objSame, eqEv, readEv, buildD, buildRows, rowsOf, elemsOf, AHeap.set_f, AHeap.emp_f, Option.map_some, Option.map_none, Option.some.injEq, exists_eq_left', exists_eq_left, true_and, and_true, List.map_cons, List.map_nil, List.append_nil, List.nil_append, List.cons_append, List.foldl_cons, List.foldl_nil, List.all_cons, List.all_nil, Bool.and_true, Bool.and_self, Bool.true_and, List.length_cons, List.length_nil, List.getElem?_cons_zero, List.getElem?_cons_succ, List.set_cons_zero, List.set_cons_succ, forall_const, reduceCtorEq, false_implies, implies_true, true_implies, Bool.not_true, Bool.not_false, decide_eq_true_eq, decide_eq_false_iff_not, Bool.true_eq_false, Bool.false_eq_true, AOut.ret.injEq, Nat.zero_add, Nat.add_zero, Nat.reduceAdd, beq_self_eq_true, bne_self_eq_false, cond_true, cond_false, List.drop_zero, Nat.sub_zero, D.int.injEq, D.str.injEq, D.bool.injEq, D.tuple.injEq, D.agg.injEq, D.sl.injEq, List.cons.injEq, or_true, true_or, or_false, false_or, and_self, not_true_eq_false, not_false_eq_true, ne_eq]
      refine ⟨?_, wrap_succ (by omega)⟩
      rw [wrap_i64 (by omega) (by omega)]
      omega
    · have : i = m := by omega
      subst this
      have e6 : (s.take i).take i = s.take i := List.take_of_length_le (by omega)
      simp only [e6, ↓reduceIte, Nat.reduceEqDiff, Nat.reduceBEq, Int.reduceLT, Int.reduceLE, Int.reduceToNat, Int.reduceEq, Int.reduceAdd, Int.reduceSub, Int.reduceMul, Int.reduceNeg, Nat.reduceMul, Nat.reduceSub, Nat.reduceLeDiff, Nat.reduceLT, Int.reduceGT, Int.reduceBEq, Int.reduceBNe, Int.cast_ofNat_Int, Int.toNat_zero, forall_eq', run_skip, run_exit, run_ret, run_seq, run_block, run_cond, pickC_true, pickC_false, pickC_bool, todo_stm, todo_stm_ret, todo_stm_exit, todo_blk, todo_blk_ret, todo_blk_exit, todo_lp, todo_lp_ret, todo_lp_exit, todo_nil, vcOps_nil, vc_ops, kont_app, ask_some, ask_none, ask_ite, ask_ite_none, askH_some, askH_none, askH_ite, op_p, op_n, op_g, guard_tt, guard_ff, guard_tf, guard_ft, guard_t, guard_f, guard_no, i_alloc, i_box, i_bs, i_load, i_loadOf, i_callA, i_store, i_storeNe, fresh_ite, encB_nil, and_imp, i_str_row, strRow_enc, i_str_sl, i_str_nil, i_str_one, i_slice_row, i_slice_str, i_slice_sl, i_slice_ptr, i_index_row, i_index_any, askE_enc, i_index_csl, i_len_str, i_len_arr, i_len_nil, i_len_sl, i_len_row, i_len_csl, i_makeSlice, i_call, i_qcall, i_panic, i_append, srcOf_str, srcOf_sl, app_nil, app_row, appR_row, enc_cells, v_mov, v_pick, v_build, v_bs, v_nc_ptr, v_nc_eptr, v_nc_rptr, v_nc_func, v_bin, v_eql, v_un, v_intInt, v_intFloat, v_same, v_strBytes, v_slice, v_fa_ptr, v_fa_eptr, v_fa_rptr, v_field, v_ia_ptr, v_ia_eptr, v_ia_rptr, v_indexA, v_indexS, v_is_enc, v_is_csl, v_extract, v_mkIface, v_mkFunc, v_max, v_min, v_len0, Ins.map, Fr.ev, Fr.put_some, Fr.put_none, Fr.put_defs, argFr, argE, binEv, intEv, shEv, strEv, unEv, Fr.mark, evRes, tup, retP_iff, retN_iff, retS_ret, retS_normal, retF_ret, retF_normal, bounds_nn, bounds_ns, bounds_sn, bounds_ss, slice_str, map_ite, ex_ite, lenD, mkFr_env, mkFr_defs, leL_nil, leL_cons, List.replicate_succ, List.replicate_zero, List.forall_mem_cons, List.not_mem_nil, Nat.zero_lt_succ, Nat.lt_add_one, enc_all, enc_dec, enc_append, enc_take, enc_drop, len_encB, AHeap.set_set, Int.toNat_natCast, lookupD, loadD, partD, storeD, cellsD, cellOk, setAt, plain_undef, frz_undef, plain_bool, frz_bool, plain_int, frz_int, plain_float, frz_float, plain_str, frz_str, plain_nilptr, frz_nilptr, plain_ptr, frz_ptr, plain_eptr, frz_eptr, plain_rptr, frz_rptr, plain_sl, frz_sl, plain_csl, frz_csl, plain_tuple, frz_tuple, plain_func, frz_func, plain_nilfunc, frz_nilfunc, plain_iface, frz_iface, plain_nilif, frz_nilif, plain_map, frz_map, plain_nilmap, frz_nilmap, plC_undef, plC_bool, plC_int, plC_float, plC_str, plC_nilptr, plC_ptr, plC_eptr, plC_rptr, plC_sl, plC_csl, plC_tuple, plC_func, plC_nilfunc, plC_iface, plC_nilif, plC_map, plC_nilmap, plain_nilsl, frz_nilsl, plain_row, plR_row, frz_row, frzR_row, frzL_nil, frzL_cons, plain_agg', plC_nilsl, plC_row, frza_nil, frza_row, frza_undef, frza_bool, frza_int, frza_float, frza_str, frza_nilptr, frza_ptr, frza_eptr, frza_rptr, frza_nilsl, frza_sl, frza_csl, frza_func, frza_nilfunc, frza_iface, frza_nilif, frza_map, frza_nilmap, objNe, objSame, eqEv, readEv, buildD, buildRows, rowsOf, elemsOf, AHeap.set_f, AHeap.emp_f, Option.map_some, Option.map_none, Option.some.injEq, exists_eq_left', exists_eq_left, true_and, and_true, List.map_cons, List.map_nil, List.append_nil, List.nil_append, List.cons_append, List.foldl_cons, List.foldl_nil, List.all_cons, List.all_nil, Bool.and_true, Bool.and_self, Bool.true_and, List.length_cons, List.length_nil, List.getElem?_cons_zero, List.getElem?_cons_succ, List.set_cons_zero, List.set_cons_succ, forall_const, reduceCtorEq, false_implies, implies_true, true_implies, Bool.not_true, Bool.not_false, decide_eq_true_eq, decide_eq_false_iff_not, Bool.true_eq_false, Bool.false_eq_true, AOut.ret.injEq, Nat.zero_add, Nat.add_zero, Nat.reduceAdd, beq_self_eq_true, bne_self_eq_false, cond_true, cond_false, List.drop_zero, Nat.sub_zero, D.int.injEq, D.str.injEq, D.bool.injEq, D.tuple.injEq, D.agg.injEq, D.sl.injEq, List.cons.injEq, or_true, true_or, or_false, false_or, and_self, not_true_eq_false, not_false_eq_true, ne_eq]
      simp
end Go.Proofs.Ytaimobfakcompaa.Zz
