/- Contracts: the document's numbers and readers. -/
import Derived.Test.YtaimobfakcompaaZB4
namespace Go.Proofs.Ytaimobfakcompaa.Zz
set_option linter.unusedVariables false
set_option linter.unusedSimpArgs false
set_option maxRecDepth 20000

def p48 : Plan := ⟨⟨[], [], [], [], [], []⟩, []⟩
/-- cupel/cupelref02.Number (2 parameters, 0 captured) -/
def s48 : Stm :=
  .seq (.ops [⟨.mov (.c (.str [])), (some 4), none, true⟩])
  (.seq (.ops [⟨.mov (.c (.str [])), (some 5), none, true⟩])
  (.seq (.seq (.ops [⟨.mov (.c (.int .i64 0)), (some 6), none, true⟩])
   (.block 0 (.loop (.seq (.seq (.ops [⟨.mov (.t 6), (some 7), none, true⟩,
         ⟨.mov (.t 1), (some 8), none, true⟩,
         ⟨.bin .lss (.t 7) (.t 8), (some 9), none, true⟩,
         ⟨.mov (.t 9), (some 10), none, true⟩,
         ⟨.mov (.t 6), (some 11), (some (10, true)), true⟩,
         ⟨.bin .lss (.t 11) (.c (.int .i64 8)), (some 12), (some (10, true)), true⟩,
         ⟨.pick (.t 10) (.t 12) (.c (.bool false)), (some 13), none, true⟩])
      (.cond (.t 13)
       (.skip)
       (.exit 0)))
     (.seq (.block 1 (.seq (.ops [⟨.mov (.t 5), (some 16), none, true⟩,
          ⟨.mov (.t 0), (some 17), none, true⟩,
          ⟨.bin .rem (.t 17) (.c (.int .u64 256)), (some 18), none, true⟩,
          ⟨.conv (.intInt .u8) (.t 18), (some 19), none, true⟩,
          ⟨.buildSlice 1 [(.int .u8 0)] 1 [(0, (.t 19))] false, (some 20), none, true⟩,
          ⟨.conv .bytesStr (.t 20), (some 21), none, false⟩,
          ⟨.bin .add (.t 16) (.t 21), (some 22), none, true⟩,
          ⟨.mov (.t 22), (some 5), none, true⟩])
       (.ops [⟨.mov (.t 0), (some 23), none, true⟩,
         ⟨.bin .quo (.t 23) (.c (.int .u64 256)), (some 24), none, true⟩,
         ⟨.mov (.t 24), (some 0), none, true⟩])))
     (.ops [⟨.mov (.t 6), (some 14), none, true⟩,
       ⟨.bin .add (.t 14) (.c (.int .i64 1)), (some 15), none, true⟩,
       ⟨.mov (.t 15), (some 6), none, true⟩]))))))
  (.seq (.ops [⟨.mov (.t 5), (some 25), none, true⟩,
     ⟨.mov (.t 25), (some 4), none, true⟩])
  (.ret))))
theorem st48 : stmOf Try.prog 48 p48 = some (s48, [.tmp 4], 26) := by kernel_rfl

def p19 : Plan := ⟨⟨[], [], [], [], [], []⟩, []⟩
/-- cupel/cupelref02.Text (1 parameters, 0 captured) -/
def s19 : Stm :=
  .seq (.ops [⟨.mov (.c (.str [])), (some 2), none, true⟩])
  (.seq (.ops [⟨.mov (.t 0), (some 3), none, true⟩,
     ⟨.len .str (.t 3), (some 4), none, false⟩,
     ⟨.conv (.intInt .u64) (.t 4), (some 5), none, true⟩,
     ⟨.qcall (.f 48) [(.t 5), (.c (.int .i64 4))], (some 6), none, false⟩,
     ⟨.mov (.t 0), (some 7), none, true⟩,
     ⟨.bin .add (.t 6) (.t 7), (some 8), none, true⟩,
     ⟨.mov (.t 8), (some 2), none, true⟩])
  (.ret))
theorem st19 : stmOf Try.prog 19 p19 = some (s19, [.tmp 2], 9) := by kernel_rfl

def p72 : Plan := ⟨⟨[], [], [], [], [], []⟩, []⟩
/-- (cupel/cupelref02.Reader).fail (2 parameters, 0 captured) -/
def s72 : Stm :=
  .seq (.ops [⟨.box (.t 0), (some 2), none, false⟩,
     ⟨.alloc [(.str []), (.int .i64 0), (.int .i64 0)], (some 4), none, false⟩])
  (.seq (.ops [⟨.fieldAddr 1 (.t 2), (some 5), none, true⟩,
     ⟨.load none (.t 5), (some 6), none, false⟩,
     ⟨.mov (.t 1), (some 7), none, true⟩,
     ⟨.build [(.str []), (.int .i64 0), (.int .i64 0)] [(1, 1, (.t 6)), (2, 1, (.t 7))], (some 8), none, true⟩,
     ⟨.store 3 (.t 4) (.t 8), none, none, false⟩])
  (.ret))
theorem st72 : stmOf Try.prog 72 p72 = some (s72, [.cell 4 (some 3)], 9) := by kernel_rfl

def p73 : Plan := ⟨⟨[], [], [], [((7, 13), [(.t 2)])], [((7, 10), (.t 2))], []⟩, [(7, [0, 1, 2, 3, 4, 5, 6, 7, 8, 9, 10, 11, 12, 13, 14])]⟩
/-- (cupel/cupelref02.Reader).Bytes (2 parameters, 0 captured) -/
def s73 : Stm :=
  .seq (.ops [⟨.box (.t 0), (some 2), none, false⟩,
     ⟨.alloc [(.str []), (.int .i64 0), (.int .i64 0)], (some 4), none, false⟩,
     ⟨.mov (.c (.str [])), (some 5), none, true⟩])
  (.seq (.block 0 (.seq (.ops [⟨.fieldAddr 2 (.t 2), (some 7), none, true⟩,
       ⟨.load none (.t 7), (some 8), none, false⟩,
       ⟨.bin .neq (.t 8) (.c (.int .i64 0)), (some 9), none, true⟩,
       ⟨.mov (.t 9), (some 6), none, true⟩])
    (.cond (.t 6)
     (.seq (.ops [⟨.load (some 3) (.t 2), (some 10), none, false⟩,
         ⟨.store 3 (.t 4) (.t 10), none, none, false⟩,
         ⟨.mov (.c (.str [])), (some 5), none, true⟩])
      (.ret))
     (.seq (.ops [⟨.mov (.t 1), (some 12), none, true⟩,
         ⟨.bin .lss (.t 12) (.c (.int .i64 0)), (some 13), none, true⟩,
         ⟨.mov (.t 13), (some 11), none, true⟩])
      (.cond (.t 11)
       (.seq (.ops [⟨.load (some 3) (.t 2), (some 14), none, false⟩,
           ⟨.qcall (.f 72) [(.t 14), (.c (.int .i64 1))], (some 15), none, false⟩,
           ⟨.store 3 (.t 4) (.t 15), none, none, false⟩,
           ⟨.mov (.c (.str [])), (some 5), none, true⟩])
        (.ret))
       (.seq (.ops [⟨.mov (.t 1), (some 17), none, true⟩,
           ⟨.fieldAddr 0 (.t 2), (some 18), none, true⟩,
           ⟨.load none (.t 18), (some 19), none, false⟩,
           ⟨.len .str (.t 19), (some 20), none, false⟩,
           ⟨.bin .gtr (.t 17) (.t 20), (some 21), none, true⟩,
           ⟨.mov (.t 21), (some 16), none, true⟩])
        (.cond (.t 16)
         (.seq (.ops [⟨.load (some 3) (.t 2), (some 22), none, false⟩,
             ⟨.qcall (.f 72) [(.t 22), (.c (.int .i64 4))], (some 23), none, false⟩,
             ⟨.store 3 (.t 4) (.t 23), none, none, false⟩,
             ⟨.mov (.c (.str [])), (some 5), none, true⟩])
          (.ret))
         (.skip))))))))
  (.seq (.ops [⟨.fieldAddr 0 (.t 2), (some 24), none, true⟩,
     ⟨.load none (.t 24), (some 25), none, false⟩,
     ⟨.mov (.t 1), (some 26), none, true⟩,
     ⟨.slice .str (.t 25) (some (.t 26)) none none, (some 27), none, true⟩,
     ⟨.fieldAddr 1 (.t 2), (some 28), none, true⟩,
     ⟨.load none (.t 28), (some 29), none, false⟩,
     ⟨.mov (.t 1), (some 30), none, true⟩,
     ⟨.bin .add (.t 29) (.t 30), (some 31), none, true⟩,
     ⟨.build [(.str []), (.int .i64 0), (.int .i64 0)] [(0, 1, (.t 27)), (1, 1, (.t 31))], (some 32), none, true⟩,
     ⟨.fieldAddr 0 (.t 2), (some 33), none, true⟩,
     ⟨.loadOf none (.t 33) (.t 2), (some 34), none, false⟩,
     ⟨.mov (.t 1), (some 35), none, true⟩,
     ⟨.slice .str (.t 34) none (some (.t 35)) none, (some 36), none, true⟩,
     ⟨.storeNe 3 (.t 4) (.t 32) [(.t 2)], none, none, false⟩,
     ⟨.mov (.t 36), (some 5), none, true⟩])
  (.ret)))
theorem st73 : stmOf Try.prog 73 p73 = some (s73, [.cell 4 (some 3), .tmp 5], 37) := by kernel_rfl

def p49 : Plan := ⟨⟨[], [], [], [], [], []⟩, []⟩
/-- (cupel/cupelref02.Reader).Number (2 parameters, 0 captured) -/
def s49 : Stm :=
  .seq (.ops [⟨.box (.t 0), (some 2), none, false⟩,
     ⟨.alloc [(.str []), (.int .i64 0), (.int .i64 0)], (some 4), none, false⟩,
     ⟨.mov (.c (.int .u64 0)), (some 5), none, true⟩])
  (.seq (.seq (.ops [⟨.fieldAddr 2 (.t 2), (some 10), none, true⟩,
      ⟨.load none (.t 10), (some 11), none, false⟩,
      ⟨.bin .eql (.t 11) (.c (.int .i64 0)), (some 12), none, true⟩,
      ⟨.mov (.t 12), (some 13), none, true⟩,
      ⟨.mov (.t 1), (some 14), (some (13, true)), true⟩,
      ⟨.bin .gtr (.t 14) (.c (.int .i64 8)), (some 15), (some (13, true)), true⟩,
      ⟨.pick (.t 13) (.t 15) (.c (.bool false)), (some 16), none, true⟩])
   (.cond (.t 16)
    (.seq (.ops [⟨.load (some 3) (.t 2), (some 17), none, false⟩,
        ⟨.qcall (.f 72) [(.t 17), (.c (.int .i64 1))], (some 18), none, false⟩,
        ⟨.store 3 (.t 4) (.t 18), none, none, false⟩,
        ⟨.mov (.c (.int .u64 0)), (some 5), none, true⟩])
     (.ret))
    (.skip)))
  (.seq (.ops [⟨.load (some 3) (.t 2), (some 20), none, false⟩,
     ⟨.mov (.t 1), (some 21), none, true⟩,
     ⟨.qcall (.f 73) [(.t 20), (.t 21)], (some 22), none, false⟩,
     ⟨.mov (.t 22), (some 19), none, true⟩,
     ⟨.extract (.t 19) 0, (some 23), none, true⟩,
     ⟨.extract (.t 19) 1, (some 24), none, true⟩,
     ⟨.alloc [(.str []), (.int .i64 0), (.int .i64 0)], (some 6), none, false⟩,
     ⟨.store 3 (.t 6) (.t 23), none, none, false⟩,
     ⟨.mov (.t 24), (some 7), none, true⟩])
  (.seq (.ops [⟨.mov (.c (.int .u64 0)), (some 8), none, true⟩])
  (.seq (.seq (.ops [⟨.mov (.t 7), (some 25), none, true⟩,
      ⟨.len .str (.t 25), (some 26), none, false⟩,
      ⟨.bin .sub (.t 26) (.c (.int .i64 1)), (some 27), none, true⟩,
      ⟨.mov (.t 27), (some 9), none, true⟩])
   (.block 0 (.loop (.seq (.seq (.ops [⟨.mov (.t 9), (some 28), none, true⟩,
         ⟨.bin .geq (.t 28) (.c (.int .i64 0)), (some 29), none, true⟩])
      (.cond (.t 29)
       (.skip)
       (.exit 0)))
     (.seq (.block 1 (.ops [⟨.mov (.t 8), (some 32), none, true⟩,
         ⟨.bin .mul (.t 32) (.c (.int .u64 256)), (some 33), none, true⟩,
         ⟨.mov (.t 7), (some 34), none, true⟩,
         ⟨.mov (.t 9), (some 35), none, true⟩,
         ⟨.indexS (.t 34) (.t 35), (some 36), none, true⟩,
         ⟨.conv (.intInt .u64) (.t 36), (some 37), none, true⟩,
         ⟨.bin .add (.t 33) (.t 37), (some 38), none, true⟩,
         ⟨.mov (.t 38), (some 8), none, true⟩]))
     (.ops [⟨.mov (.t 9), (some 30), none, true⟩,
       ⟨.bin .sub (.t 30) (.c (.int .i64 1)), (some 31), none, true⟩,
       ⟨.mov (.t 31), (some 9), none, true⟩]))))))
  (.seq (.ops [⟨.load (some 3) (.t 6), (some 39), none, false⟩,
     ⟨.mov (.t 8), (some 40), none, true⟩,
     ⟨.store 3 (.t 4) (.t 39), none, none, false⟩,
     ⟨.mov (.t 40), (some 5), none, true⟩])
  (.ret))))))
theorem st49 : stmOf Try.prog 49 p49 = some (s49, [.cell 4 (some 3), .tmp 5], 41) := by kernel_rfl


theorem refNumber_c (n : Nat) (m : Int) (hn : n < 2 ^ 64) : PCall Try.prog 48 [.int .u64 n, .int .i64 m] (.str (leB n (bN m))) := by
  refine PCall.run (Tab.zero_ok _) st48 (by simp) fun E => ?_
  simp only [s48, ↓reduceIte, Nat.reduceEqDiff, Nat.reduceBEq, Int.reduceLT, Int.reduceLE, Int.reduceToNat, Int.reduceEq, Int.reduceAdd, Int.reduceSub, Int.reduceMul, Int.reduceNeg, Nat.reduceMul, Nat.reduceSub, Nat.reduceLeDiff, Nat.reduceLT, Int.reduceGT, Int.reduceBEq, Int.reduceBNe, Int.cast_ofNat_Int, Int.toNat_zero, forall_eq', run_skip, run_exit, run_ret, run_seq, run_block, run_cond, pickC_true, pickC_false, pickC_bool, todo_stm, todo_stm_ret, todo_stm_exit, todo_blk, todo_blk_ret, todo_blk_exit, todo_lp, todo_lp_ret, todo_lp_exit, todo_nil, vcOps_nil, vc_ops, kont_app, ask_some, ask_none, ask_ite, ask_ite_none, askH_some, askH_none, askH_ite, op_p, op_n, op_g, guard_tt, guard_ff, guard_tf, guard_ft, guard_t, guard_f, guard_no, i_alloc, i_box, i_bs, i_load, i_loadOf, i_callA, i_store, i_storeNe, fresh_ite, encB_nil, and_imp, i_str_row, strRow_enc, i_str_sl, i_str_nil, i_str_one, i_slice_row, i_slice_str, i_slice_sl, i_slice_ptr, i_index_row, i_index_any, askE_enc, i_index_csl, i_len_str, i_len_arr, i_len_nil, i_len_sl, i_len_row, i_len_csl, i_makeSlice, i_call, i_qcall, i_panic, i_append, srcOf_str, srcOf_sl, app_nil, app_row, appR_row, enc_cells, v_mov, v_pick, v_build, v_bs, v_nc_ptr, v_nc_eptr, v_nc_rptr, v_nc_func, v_bin, v_eql, v_un, v_intInt, v_intFloat, v_same, v_strBytes, v_slice, v_fa_ptr, v_fa_eptr, v_fa_rptr, v_field, v_ia_ptr, v_ia_eptr, v_ia_rptr, v_indexA, v_indexS, v_is_enc, v_is_csl, v_extract, v_mkIface, v_mkFunc, v_max, v_min, v_len0, Ins.map, Fr.ev, Fr.put_some, Fr.put_none, Fr.put_defs, argFr, argE, binEv, intEv, shEv, strEv, unEv, Fr.mark, evRes, tup, retP_iff, retN_iff, retS_ret, retS_normal, retF_ret, retF_normal, bounds_nn, bounds_ns, bounds_sn, bounds_ss, slice_str, map_ite, ex_ite, lenD, mkFr_env, mkFr_defs, leL_nil, leL_cons, List.replicate_succ, List.replicate_zero, List.forall_mem_cons, List.not_mem_nil, Nat.zero_lt_succ, Nat.lt_add_one, enc_all, enc_dec, enc_append, enc_take, enc_drop, len_encB, AHeap.set_set, Int.toNat_natCast, lookupD, loadD, partD, storeD, cellsD, cellOk, setAt, plain_undef, frz_undef, plain_bool, frz_bool, plain_int, frz_int, plain_float, frz_float, plain_str, frz_str, plain_nilptr, frz_nilptr, plain_ptr, frz_ptr, plain_eptr, frz_eptr, plain_rptr, frz_rptr, plain_sl, frz_sl, plain_csl, frz_csl, plain_tuple, frz_tuple, plain_func, frz_func, plain_nilfunc, frz_nilfunc, plain_iface, frz_iface, plain_nilif, frz_nilif, plain_map, frz_map, plain_nilmap, frz_nilmap, plC_undef, plC_bool, plC_int, plC_float, plC_str, plC_nilptr, plC_ptr, plC_eptr, plC_rptr, plC_sl, plC_csl, plC_tuple, plC_func, plC_nilfunc, plC_iface, plC_nilif, plC_map, plC_nilmap, plain_nilsl, frz_nilsl, plain_row, plR_row, frz_row, frzR_row, frzL_nil, frzL_cons, plain_agg', plC_nilsl, plC_row, frza_nil, frza_row, frza_undef, frza_bool, frza_int, frza_float, frza_str, frza_nilptr, frza_ptr, frza_eptr, frza_rptr, frza_nilsl, frza_sl, frza_csl, frza_func, frza_nilfunc, frza_iface, frza_nilif, frza_map, frza_nilmap, objNe, objSame, eqEv, readEv, buildD, buildRows, rowsOf, elemsOf, AHeap.set_f, AHeap.emp_f, Option.map_some, Option.map_none, Option.some.injEq, exists_eq_left', exists_eq_left, true_and, and_true, List.map_cons, List.map_nil, List.append_nil, List.nil_append, List.cons_append, List.foldl_cons, List.foldl_nil, List.all_cons, List.all_nil, Bool.and_true, Bool.and_self, Bool.true_and, List.length_cons, List.length_nil, List.getElem?_cons_zero, List.getElem?_cons_succ, List.set_cons_zero, List.set_cons_succ, forall_const, reduceCtorEq, false_implies, implies_true, true_implies, Bool.not_true, Bool.not_false, decide_eq_true_eq, decide_eq_false_iff_not, Bool.true_eq_false, Bool.false_eq_true, AOut.ret.injEq, Nat.zero_add, Nat.add_zero, Nat.reduceAdd, beq_self_eq_true, bne_self_eq_false, cond_true, cond_false, List.drop_zero, Nat.sub_zero, D.int.injEq, D.str.injEq, D.bool.injEq, D.tuple.injEq, D.agg.injEq, D.sl.injEq, List.cons.injEq, or_true, true_or, or_false, false_or, and_self, not_true_eq_false, not_false_eq_true, ne_eq]
  have hb := bN_le m
  refine run_loop (X := Nat) (fun i => [(0, .int .u64 (n / 256 ^ i : Nat)), (1, .int .i64 m), (5, .str (leB n i)), (6, .int .i64 i)])
    (fun i => AHeap.emp) (fun i => bN m - i) (fun i => i ≤ bN m) 0 (Nat.zero_le _) ?_ (AHeap.sub_refl _) ?_
  · simp only [↓reduceIte, Nat.reduceEqDiff, Nat.reduceBEq, Int.reduceLT, Int.reduceLE, Int.reduceToNat, Int.reduceEq, Int.reduceAdd, Int.reduceSub, Int.reduceMul, Int.reduceNeg, Nat.reduceMul, Nat.reduceSub, Nat.reduceLeDiff, Nat.reduceLT, Int.reduceGT, Int.reduceBEq, Int.reduceBNe, Int.cast_ofNat_Int, Int.toNat_zero, forall_eq', run_skip, run_exit, run_ret, run_seq, run_block, run_cond, pickC_true, pickC_false, pickC_bool, todo_stm, todo_stm_ret, todo_stm_exit, todo_blk, todo_blk_ret, todo_blk_exit, todo_lp, todo_lp_ret, todo_lp_exit, todo_nil, vcOps_nil, vc_ops, kont_app, ask_some, ask_none, ask_ite, ask_ite_none, askH_some, askH_none, askH_ite, op_p, op_n, op_g, guard_tt, guard_ff, guard_tf, guard_ft, guard_t, guard_f, guard_no, i_alloc, i_box, i_bs, i_load, i_loadOf, i_callA, i_store, i_storeNe, fresh_ite, encB_nil, and_imp, i_str_row, strRow_enc, i_str_sl, i_str_nil, i_str_one, i_slice_row, i_slice_str, i_slice_sl, i_slice_ptr, i_index_row, i_index_any, askE_enc, i_index_csl, i_len_str, i_len_arr, i_len_nil, i_len_sl, i_len_row, i_len_csl, i_makeSlice, i_call, i_qcall, i_panic, i_append, srcOf_str, srcOf_sl, app_nil, app_row, appR_row, enc_cells, v_mov, v_pick, v_build, v_bs, v_nc_ptr, v_nc_eptr, v_nc_rptr, v_nc_func, v_bin, v_eql, v_un, v_intInt, v_intFloat, v_same, v_strBytes, v_slice, v_fa_ptr, v_fa_eptr, v_fa_rptr, v_field, v_ia_ptr, v_ia_eptr, v_ia_rptr, v_indexA, v_indexS, v_is_enc, v_is_csl, v_extract, v_mkIface, v_mkFunc, v_max, v_min, v_len0, Ins.map, Fr.ev, Fr.put_some, Fr.put_none, Fr.put_defs, argFr, argE, binEv, intEv, shEv, strEv, unEv, Fr.mark, evRes, tup, retP_iff, retN_iff, retS_ret, retS_normal, retF_ret, retF_normal, bounds_nn, bounds_ns, bounds_sn, bounds_ss, slice_str, map_ite, ex_ite, lenD, mkFr_env, mkFr_defs, leL_nil, leL_cons, List.replicate_succ, List.replicate_zero, List.forall_mem_cons, List.not_mem_nil, Nat.zero_lt_succ, Nat.lt_add_one, enc_all, enc_dec, enc_append, enc_take, enc_drop, len_encB, AHeap.set_set, Int.toNat_natCast, lookupD, loadD, partD, storeD, cellsD, cellOk, setAt, plain_undef, frz_undef, plain_bool, frz_bool, plain_int, frz_int, plain_float, frz_float, plain_str, frz_str, plain_nilptr, frz_nilptr, plain_ptr, frz_ptr, plain_eptr, frz_eptr, plain_rptr, frz_rptr, plain_sl, frz_sl, plain_csl, frz_csl, plain_tuple, frz_tuple, plain_func, frz_func, plain_nilfunc, frz_nilfunc, plain_iface, frz_iface, plain_nilif, frz_nilif, plain_map, frz_map, plain_nilmap, frz_nilmap, plC_undef, plC_bool, plC_int, plC_float, plC_str, plC_nilptr, plC_ptr, plC_eptr, plC_rptr, plC_sl, plC_csl, plC_tuple, plC_func, plC_nilfunc, plC_iface, plC_nilif, plC_map, plC_nilmap, plain_nilsl, frz_nilsl, plain_row, plR_row, frz_row, frzR_row, frzL_nil, frzL_cons, plain_agg', plC_nilsl, plC_row, frza_nil, frza_row, frza_undef, frza_bool, frza_int, frza_float, frza_str, frza_nilptr, frza_ptr, frza_eptr, frza_rptr, frza_nilsl, frza_sl, frza_csl, frza_func, frza_nilfunc, frza_iface, frza_nilif, frza_map, frza_nilmap, objNe, objSame, eqEv, readEv, buildD, buildRows, rowsOf, elemsOf, AHeap.set_f, AHeap.emp_f, Option.map_some, Option.map_none, Option.some.injEq, exists_eq_left', exists_eq_left, true_and, and_true, List.map_cons, List.map_nil, List.append_nil, List.nil_append, List.cons_append, List.foldl_cons, List.foldl_nil, List.all_cons, List.all_nil, Bool.and_true, Bool.and_self, Bool.true_and, List.length_cons, List.length_nil, List.getElem?_cons_zero, List.getElem?_cons_succ, List.set_cons_zero, List.set_cons_succ, forall_const, reduceCtorEq, false_implies, implies_true, true_implies, Bool.not_true, Bool.not_false, decide_eq_true_eq, decide_eq_false_iff_not, Bool.true_eq_false, Bool.false_eq_true, AOut.ret.injEq, Nat.zero_add, Nat.add_zero, Nat.reduceAdd, beq_self_eq_true, bne_self_eq_false, cond_true, cond_false, List.drop_zero, Nat.sub_zero, D.int.injEq, D.str.injEq, D.bool.injEq, D.tuple.injEq, D.agg.injEq, D.sl.injEq, List.cons.injEq, or_true, true_or, or_false, false_or, and_self, not_true_eq_false, not_false_eq_true, ne_eq]
    simp [leB]
  · intro i Q hi hQ
    have hlen := len_leB n i
    by_cases h1 : i < bN m
    · have g1 : ((i : Int) < m) = True := by unfold bN at h1; simp; omega
      have g2 : ((i : Int) < 8) = True := by simp; omega
      have g3 : ((256 : Int) = 0) = False := by simp
      simp only [g1, g2, g3, decide_true, hlen, ↓reduceIte, Nat.reduceEqDiff, Nat.reduceBEq, Int.reduceLT, Int.reduceLE, Int.reduceToNat, Int.reduceEq, Int.reduceAdd, Int.reduceSub, Int.reduceMul, Int.reduceNeg, Nat.reduceMul, Nat.reduceSub, Nat.reduceLeDiff, Nat.reduceLT, Int.reduceGT, Int.reduceBEq, Int.reduceBNe, Int.cast_ofNat_Int, Int.toNat_zero, forall_eq', run_skip, run_exit, run_ret, run_seq, run_block, run_cond, pickC_true, pickC_false, pickC_bool, todo_stm, todo_stm_ret, todo_stm_exit, todo_blk, todo_blk_ret, todo_blk_exit, todo_lp, todo_lp_ret, todo_lp_exit, todo_nil, vcOps_nil, vc_ops, kont_app, ask_some, ask_none, ask_ite, ask_ite_none, askH_some, askH_none, askH_ite, op_p, op_n, op_g, guard_tt, guard_ff, guard_tf, guard_ft, guard_t, guard_f, guard_no, i_alloc, i_box, i_bs, i_load, i_loadOf, i_callA, i_store, i_storeNe, fresh_ite, encB_nil, and_imp, i_str_row, strRow_enc, i_str_sl, i_str_nil, i_str_one, i_slice_row, i_slice_str, i_slice_sl, i_slice_ptr, i_index_row, i_index_any, askE_enc, i_index_csl, i_len_str, i_len_arr, i_len_nil, i_len_sl, i_len_row, i_len_csl, i_makeSlice, i_call, i_qcall, i_panic, i_append, srcOf_str, srcOf_sl, app_nil, app_row, appR_row, enc_cells, v_mov, v_pick, v_build, v_bs, v_nc_ptr, v_nc_eptr, v_nc_rptr, v_nc_func, v_bin, v_eql, v_un, v_intInt, v_intFloat, v_same, v_strBytes, v_slice, v_fa_ptr, v_fa_eptr, v_fa_rptr, v_field, v_ia_ptr, v_ia_eptr, v_ia_rptr, v_indexA, v_indexS, v_is_enc, v_is_csl, v_extract, v_mkIface, v_mkFunc, v_max, v_min, v_len0, Ins.map, Fr.ev, Fr.put_some, Fr.put_none, Fr.put_defs, argFr, argE, binEv, intEv, shEv, strEv, unEv, Fr.mark, evRes, tup, retP_iff, retN_iff, retS_ret, retS_normal, retF_ret, retF_normal, bounds_nn, bounds_ns, bounds_sn, bounds_ss, slice_str, map_ite, ex_ite, lenD, mkFr_env, mkFr_defs, leL_nil, leL_cons, List.replicate_succ, List.replicate_zero, List.forall_mem_cons, List.not_mem_nil, Nat.zero_lt_succ, Nat.lt_add_one, enc_all, enc_dec, enc_append, enc_take, enc_drop, len_encB, AHeap.set_set, Int.toNat_natCast, lookupD, loadD, partD, storeD, cellsD, cellOk, setAt, plain_undef, frz_undef, plain_bool, frz_bool, plain_int, frz_int, plain_float, frz_float, plain_str, frz_str, plain_nilptr, frz_nilptr, plain_ptr, frz_ptr, plain_eptr, frz_eptr, plain_rptr, frz_rptr, plain_sl, frz_sl, plain_csl, frz_csl, plain_tuple, frz_tuple, plain_func, frz_func, plain_nilfunc, frz_nilfunc, plain_iface, frz_iface, plain_nilif, frz_nilif, plain_map, frz_map, plain_nilmap, frz_nilmap, plC_undef, plC_bool, plC_int, plC_float, plC_str, plC_nilptr, plC_ptr, plC_eptr, plC_rptr, plC_sl, plC_csl, plC_tuple, plC_func, plC_nilfunc, plC_iface, plC_nilif, plC_map, plC_nilmap, plain_nilsl, frz_nilsl, plain_row, plR_row, frz_row, frzR_row, frzL_nil, frzL_cons, plain_agg', plC_nilsl, plC_row, frza_nil, frza_row, frza_undef, frza_bool, frza_int, frza_float, frza_str, frza_nilptr, frza_ptr, frza_eptr, frza_rptr, frza_nilsl, frza_sl, frza_csl, frza_func, frza_nilfunc, frza_iface, frza_nilif, frza_map, frza_nilmap, objNe, objSame, eqEv, readEv, buildD, buildRows, rowsOf, elemsOf, AHeap.set_f, AHeap.emp_f, Option.map_some, Option.map_none, Option.some.injEq, exists_eq_left', exists_eq_left, true_and, and_true, List.map_cons, List.map_nil, List.append_nil, List.nil_append, List.cons_append, List.foldl_cons, List.foldl_nil, List.all_cons, List.all_nil, Bool.and_true, Bool.and_self, Bool.true_and, List.length_cons, List.length_nil, List.getElem?_cons_zero, List.getElem?_cons_succ, List.set_cons_zero, List.set_cons_succ, forall_const, reduceCtorEq, false_implies, implies_true, true_implies, Bool.not_true, Bool.not_false, decide_eq_true_eq, decide_eq_false_iff_not, Bool.true_eq_false, Bool.false_eq_true, AOut.ret.injEq, Nat.zero_add, Nat.add_zero, Nat.reduceAdd, beq_self_eq_true, bne_self_eq_false, cond_true, cond_false, List.drop_zero, Nat.sub_zero, D.int.injEq, D.str.injEq, D.bool.injEq, D.tuple.injEq, D.agg.injEq, D.sl.injEq, List.cons.injEq, or_true, true_or, or_false, false_or, and_self, not_true_eq_false, not_false_eq_true, ne_eq]
      refine ⟨by omega, ?_⟩
      refine hQ (i + 1) _ _ (by omega) ?_ (AHeap.sub_refl _) (by omega)
      simp only [↓reduceIte, Nat.reduceEqDiff, Nat.reduceBEq, Int.reduceLT, Int.reduceLE, Int.reduceToNat, Int.reduceEq, Int.reduceAdd, Int.reduceSub, Int.reduceMul, Int.reduceNeg, Nat.reduceMul, Nat.reduceSub, Nat.reduceLeDiff, Nat.reduceLT, Int.reduceGT, Int.reduceBEq, Int.reduceBNe, Int.cast_ofNat_Int, Int.toNat_zero, forall_eq', run_skip, run_exit, run_ret, run_seq, run_block, run_cond, pickC_true, pickC_false, pickC_bool, todo_stm, todo_stm_ret, todo_stm_exit, todo_blk, todo_blk_ret, todo_blk_exit, todo_lp, todo_lp_ret, todo_lp_exit, todo_nil, vcOps_nil, vc_ops, kont_app, ask_some, ask_none, ask_ite, ask_ite_none, askH_some, askH_none, askH_ite, op_p, op_n, op_g, guard_tt, guard_ff, guard_tf, guard_ft, guard_t, guard_f, guard_no, i_alloc, i_box, i_bs, i_load, i_loadOf, i_callA, i_store, i_storeNe, fresh_ite, encB_nil, and_imp, i_str_row, strRow_enc, i_str_sl, i_str_nil, i_str_one, i_slice_row, i_slice_str, i_slice_sl, i_slice_ptr, i_index_row, i_index_any, askE_enc, i_index_csl, i_len_str, i_len_arr, i_len_nil, i_len_sl, i_len_row, i_len_csl, i_makeSlice, i_call, i_qcall, i_panic, i_append, srcOf_str, srcOf_sl, app_nil, app_row, appR_row, enc_cells, v_mov, v_pick, v_build, v_bs, v_nc_ptr, v_nc_eptr, v_nc_rptr, v_nc_func, v_bin, v_eql, v_un, v_intInt, v_intFloat, v_same, v_strBytes, v_slice, v_fa_ptr, v_fa_eptr, v_fa_rptr, v_field, v_ia_ptr, v_ia_eptr, v_ia_rptr, v_indexA, v_indexS, v_is_enc, v_is_csl, v_extract, v_mkIface, v_mkFunc, v_max, v_min, v_len0, Ins.map, Fr.ev, Fr.put_some, Fr.put_none, Fr.put_defs, argFr, argE, binEv, intEv, shEv, strEv, unEv, Fr.mark, evRes, tup, retP_iff, retN_iff, retS_ret, retS_normal, retF_ret, retF_normal, bounds_nn, bounds_ns, bounds_sn, bounds_ss, slice_str, map_ite, ex_ite, lenD, mkFr_env, mkFr_defs, leL_nil, leL_cons, List.replicate_succ, List.replicate_zero, List.forall_mem_cons, List.not_mem_nil, Nat.zero_lt_succ, Nat.lt_add_one, enc_all, enc_dec, enc_append, enc_take, enc_drop, len_encB, AHeap.set_set, Int.toNat_natCast, lookupD, loadD, partD, storeD, cellsD, cellOk, setAt, plain_undef, frz_undef, plain_bool, frz_bool, plain_int, frz_int, plain_float, frz_float, plain_str, frz_str, plain_nilptr, frz_nilptr, plain_ptr, frz_ptr, plain_eptr, frz_eptr, plain_rptr, frz_rptr, plain_sl, frz_sl, plain_csl, frz_csl, plain_tuple, frz_tuple, plain_func, frz_func, plain_nilfunc, frz_nilfunc, plain_iface, frz_iface, plain_nilif, frz_nilif, plain_map, frz_map, plain_nilmap, frz_nilmap, plC_undef, plC_bool, plC_int, plC_float, plC_str, plC_nilptr, plC_ptr, plC_eptr, plC_rptr, plC_sl, plC_csl, plC_tuple, plC_func, plC_nilfunc, plC_iface, plC_nilif, plC_map, plC_nilmap, plain_nilsl, frz_nilsl, plain_row, plR_row, frz_row, frzR_row, frzL_nil, frzL_cons, plain_agg', plC_nilsl, plC_row, frza_nil, frza_row, frza_undef, frza_bool, frza_int, frza_float, frza_str, frza_nilptr, frza_ptr, frza_eptr, frza_rptr, frza_nilsl, frza_sl, frza_csl, frza_func, frza_nilfunc, frza_iface, frza_nilif, frza_map, frza_nilmap, objNe, objSame, eqEv, readEv, buildD, buildRows, rowsOf, elemsOf, AHeap.set_f, AHeap.emp_f, Option.map_some, Option.map_none, Option.some.injEq, exists_eq_left', exists_eq_left, true_and, and_true, List.map_cons, List.map_nil, List.append_nil, List.nil_append, List.cons_append, List.foldl_cons, List.foldl_nil, List.all_cons, List.all_nil, Bool.and_true, Bool.and_self, Bool.true_and, List.length_cons, List.length_nil, List.getElem?_cons_zero, List.getElem?_cons_succ, List.set_cons_zero, List.set_cons_succ, forall_const, reduceCtorEq, false_implies, implies_true, true_implies, Bool.not_true, Bool.not_false, decide_eq_true_eq, decide_eq_false_iff_not, Bool.true_eq_false, Bool.false_eq_true, AOut.ret.injEq, Nat.zero_add, Nat.add_zero, Nat.reduceAdd, beq_self_eq_true, bne_self_eq_false, cond_true, cond_false, List.drop_zero, Nat.sub_zero, D.int.injEq, D.str.injEq, D.bool.injEq, D.tuple.injEq, D.agg.injEq, D.sl.injEq, List.cons.injEq, or_true, true_or, or_false, false_or, and_self, not_true_eq_false, not_false_eq_true, ne_eq]
      have hd : n / 256 ^ (i + 1) = n / 256 ^ i / 256 := by rw [Nat.pow_succ, Nat.div_div_eq_div_mul]
      have hle : n / 256 ^ i ≤ n := Nat.div_le_self _ _
      rw [hd, leB_snoc]
      generalize n / 256 ^ i = q at hle ⊢
      have t1 : ((q : Int)).tdiv 256 = ((q / 256 : Nat) : Int) := by rw [Int.tdiv_eq_ediv_of_nonneg (by omega)]; omega
      have t2 : ((q : Int)).tmod 256 = ((q % 256 : Nat) : Int) := by rw [Int.tmod_eq_emod_of_nonneg (by omega)]; omega
      rw [t1, t2]
      refine ⟨wrap_u64 (by omega) (by omega), ?_, wrap_succ (by omega)⟩
      congr 2
      rw [wrap_u8]
      apply UInt8.toNat_inj.1
      simp
      omega
    · have : i = bN m := by omega
      subst this
      by_cases g1 : ((bN m : Int) < m)
      · have g2 : ((bN m : Int) < 8) = False := by unfold bN at g1 ⊢; simp; omega
        simp only [g1, g2, decide_true, decide_false, ↓reduceIte, Nat.reduceEqDiff, Nat.reduceBEq, Int.reduceLT, Int.reduceLE, Int.reduceToNat, Int.reduceEq, Int.reduceAdd, Int.reduceSub, Int.reduceMul, Int.reduceNeg, Nat.reduceMul, Nat.reduceSub, Nat.reduceLeDiff, Nat.reduceLT, Int.reduceGT, Int.reduceBEq, Int.reduceBNe, Int.cast_ofNat_Int, Int.toNat_zero, forall_eq', run_skip, run_exit, run_ret, run_seq, run_block, run_cond, pickC_true, pickC_false, pickC_bool, todo_stm, todo_stm_ret, todo_stm_exit, todo_blk, todo_blk_ret, todo_blk_exit, todo_lp, todo_lp_ret, todo_lp_exit, todo_nil, vcOps_nil, vc_ops, kont_app, ask_some, ask_none, ask_ite, ask_ite_none, askH_some, askH_none, askH_ite, op_p, op_n, op_g, guard_tt, guard_ff, guard_tf, guard_ft, guard_t, guard_f, guard_no, i_alloc, i_box, i_bs, i_load, i_loadOf, i_callA, i_store, i_storeNe, fresh_ite, encB_nil, and_imp, i_str_row, strRow_enc, i_str_sl, i_str_nil, i_str_one, i_slice_row, i_slice_str, i_slice_sl, i_slice_ptr, i_index_row, i_index_any, askE_enc, i_index_csl, i_len_str, i_len_arr, i_len_nil, i_len_sl, i_len_row, i_len_csl, i_makeSlice, i_call, i_qcall, i_panic, i_append, srcOf_str, srcOf_sl, app_nil, app_row, appR_row, enc_cells, v_mov, v_pick, v_build, v_bs, v_nc_ptr, v_nc_eptr, v_nc_rptr, v_nc_func, v_bin, v_eql, v_un, v_intInt, v_intFloat, v_same, v_strBytes, v_slice, v_fa_ptr, v_fa_eptr, v_fa_rptr, v_field, v_ia_ptr, v_ia_eptr, v_ia_rptr, v_indexA, v_indexS, v_is_enc, v_is_csl, v_extract, v_mkIface, v_mkFunc, v_max, v_min, v_len0, Ins.map, Fr.ev, Fr.put_some, Fr.put_none, Fr.put_defs, argFr, argE, binEv, intEv, shEv, strEv, unEv, Fr.mark, evRes, tup, retP_iff, retN_iff, retS_ret, retS_normal, retF_ret, retF_normal, bounds_nn, bounds_ns, bounds_sn, bounds_ss, slice_str, map_ite, ex_ite, lenD, mkFr_env, mkFr_defs, leL_nil, leL_cons, List.replicate_succ, List.replicate_zero, List.forall_mem_cons, List.not_mem_nil, Nat.zero_lt_succ, Nat.lt_add_one, enc_all, enc_dec, enc_append, enc_take, enc_drop, len_encB, AHeap.set_set, Int.toNat_natCast, lookupD, loadD, partD, storeD, cellsD, cellOk, setAt, plain_undef, frz_undef, plain_bool, frz_bool, plain_int, frz_int, plain_float, frz_float, plain_str, frz_str, plain_nilptr, frz_nilptr, plain_ptr, frz_ptr, plain_eptr, frz_eptr, plain_rptr, frz_rptr, plain_sl, frz_sl, plain_csl, frz_csl, plain_tuple, frz_tuple, plain_func, frz_func, plain_nilfunc, frz_nilfunc, plain_iface, frz_iface, plain_nilif, frz_nilif, plain_map, frz_map, plain_nilmap, frz_nilmap, plC_undef, plC_bool, plC_int, plC_float, plC_str, plC_nilptr, plC_ptr, plC_eptr, plC_rptr, plC_sl, plC_csl, plC_tuple, plC_func, plC_nilfunc, plC_iface, plC_nilif, plC_map, plC_nilmap, plain_nilsl, frz_nilsl, plain_row, plR_row, frz_row, frzR_row, frzL_nil, frzL_cons, plain_agg', plC_nilsl, plC_row, frza_nil, frza_row, frza_undef, frza_bool, frza_int, frza_float, frza_str, frza_nilptr, frza_ptr, frza_eptr, frza_rptr, frza_nilsl, frza_sl, frza_csl, frza_func, frza_nilfunc, frza_iface, frza_nilif, frza_map, frza_nilmap, objNe, objSame, eqEv, readEv, buildD, buildRows, rowsOf, elemsOf, AHeap.set_f, AHeap.emp_f, Option.map_some, Option.map_none, Option.some.injEq, exists_eq_left', exists_eq_left, true_and, and_true, List.map_cons, List.map_nil, List.append_nil, List.nil_append, List.cons_append, List.foldl_cons, List.foldl_nil, List.all_cons, List.all_nil, Bool.and_true, Bool.and_self, Bool.true_and, List.length_cons, List.length_nil, List.getElem?_cons_zero, List.getElem?_cons_succ, List.set_cons_zero, List.set_cons_succ, forall_const, reduceCtorEq, false_implies, implies_true, true_implies, Bool.not_true, Bool.not_false, decide_eq_true_eq, decide_eq_false_iff_not, Bool.true_eq_false, Bool.false_eq_true, AOut.ret.injEq, Nat.zero_add, Nat.add_zero, Nat.reduceAdd, beq_self_eq_true, bne_self_eq_false, cond_true, cond_false, List.drop_zero, Nat.sub_zero, D.int.injEq, D.str.injEq, D.bool.injEq, D.tuple.injEq, D.agg.injEq, D.sl.injEq, List.cons.injEq, or_true, true_or, or_false, false_or, and_self, not_true_eq_false, not_false_eq_true, ne_eq]
      · simp only [g1, decide_false, ↓reduceIte, Nat.reduceEqDiff, Nat.reduceBEq, Int.reduceLT, Int.reduceLE, Int.reduceToNat, Int.reduceEq, Int.reduceAdd, Int.reduceSub, Int.reduceMul, Int.reduceNeg, Nat.reduceMul, Nat.reduceSub, Nat.reduceLeDiff, Nat.reduceLT, Int.reduceGT, Int.reduceBEq, Int.reduceBNe, Int.cast_ofNat_Int, Int.toNat_zero, forall_eq', run_skip, run_exit, run_ret, run_seq, run_block, run_cond, pickC_true, pickC_false, pickC_bool, todo_stm, todo_stm_ret, todo_stm_exit, todo_blk, todo_blk_ret, todo_blk_exit, todo_lp, todo_lp_ret, todo_lp_exit, todo_nil, vcOps_nil, vc_ops, kont_app, ask_some, ask_none, ask_ite, ask_ite_none, askH_some, askH_none, askH_ite, op_p, op_n, op_g, guard_tt, guard_ff, guard_tf, guard_ft, guard_t, guard_f, guard_no, i_alloc, i_box, i_bs, i_load, i_loadOf, i_callA, i_store, i_storeNe, fresh_ite, encB_nil, and_imp, i_str_row, strRow_enc, i_str_sl, i_str_nil, i_str_one, i_slice_row, i_slice_str, i_slice_sl, i_slice_ptr, i_index_row, i_index_any, askE_enc, i_index_csl, i_len_str, i_len_arr, i_len_nil, i_len_sl, i_len_row, i_len_csl, i_makeSlice, i_call, i_qcall, i_panic, i_append, srcOf_str, srcOf_sl, app_nil, app_row, appR_row, enc_cells, v_mov, v_pick, v_build, v_bs, v_nc_ptr, v_nc_eptr, v_nc_rptr, v_nc_func, v_bin, v_eql, v_un, v_intInt, v_intFloat, v_same, v_strBytes, v_slice, v_fa_ptr, v_fa_eptr, v_fa_rptr, v_field, v_ia_ptr, v_ia_eptr, v_ia_rptr, v_indexA, v_indexS, v_is_enc, v_is_csl, v_extract, v_mkIface, v_mkFunc, v_max, v_min, v_len0, Ins.map, Fr.ev, Fr.put_some, Fr.put_none, Fr.put_defs, argFr, argE, binEv, intEv, shEv, strEv, unEv, Fr.mark, evRes, tup, retP_iff, retN_iff, retS_ret, retS_normal, retF_ret, retF_normal, bounds_nn, bounds_ns, bounds_sn, bounds_ss, slice_str, map_ite, ex_ite, lenD, mkFr_env, mkFr_defs, leL_nil, leL_cons, List.replicate_succ, List.replicate_zero, List.forall_mem_cons, List.not_mem_nil, Nat.zero_lt_succ, Nat.lt_add_one, enc_all, enc_dec, enc_append, enc_take, enc_drop, len_encB, AHeap.set_set, Int.toNat_natCast, lookupD, loadD, partD, storeD, cellsD, cellOk, setAt, plain_undef, frz_undef, plain_bool, frz_bool, plain_int, frz_int, plain_float, frz_float, plain_str, frz_str, plain_nilptr, frz_nilptr, plain_ptr, frz_ptr, plain_eptr, frz_eptr, plain_rptr, frz_rptr, plain_sl, frz_sl, plain_csl, frz_csl, plain_tuple, frz_tuple, plain_func, frz_func, plain_nilfunc, frz_nilfunc, plain_iface, frz_iface, plain_nilif, frz_nilif, plain_map, frz_map, plain_nilmap, frz_nilmap, plC_undef, plC_bool, plC_int, plC_float, plC_str, plC_nilptr, plC_ptr, plC_eptr, plC_rptr, plC_sl, plC_csl, plC_tuple, plC_func, plC_nilfunc, plC_iface, plC_nilif, plC_map, plC_nilmap, plain_nilsl, frz_nilsl, plain_row, plR_row, frz_row, frzR_row, frzL_nil, frzL_cons, plain_agg', plC_nilsl, plC_row, frza_nil, frza_row, frza_undef, frza_bool, frza_int, frza_float, frza_str, frza_nilptr, frza_ptr, frza_eptr, frza_rptr, frza_nilsl, frza_sl, frza_csl, frza_func, frza_nilfunc, frza_iface, frza_nilif, frza_map, frza_nilmap, objNe, objSame, eqEv, readEv, buildD, buildRows, rowsOf, elemsOf, AHeap.set_f, AHeap.emp_f, Option.map_some, Option.map_none, Option.some.injEq, exists_eq_left', exists_eq_left, true_and, and_true, List.map_cons, List.map_nil, List.append_nil, List.nil_append, List.cons_append, List.foldl_cons, List.foldl_nil, List.all_cons, List.all_nil, Bool.and_true, Bool.and_self, Bool.true_and, List.length_cons, List.length_nil, List.getElem?_cons_zero, List.getElem?_cons_succ, List.set_cons_zero, List.set_cons_succ, forall_const, reduceCtorEq, false_implies, implies_true, true_implies, Bool.not_true, Bool.not_false, decide_eq_true_eq, decide_eq_false_iff_not, Bool.true_eq_false, Bool.false_eq_true, AOut.ret.injEq, Nat.zero_add, Nat.add_zero, Nat.reduceAdd, beq_self_eq_true, bne_self_eq_false, cond_true, cond_false, List.drop_zero, Nat.sub_zero, D.int.injEq, D.str.injEq, D.bool.injEq, D.tuple.injEq, D.agg.injEq, D.sl.injEq, List.cons.injEq, or_true, true_or, or_false, false_or, and_self, not_true_eq_false, not_false_eq_true, ne_eq]
def qRefNumber : List D → Option D
  | [.int .u64 n, .int .i64 m] => if 0 ≤ n ∧ n < 18446744073709551616 then some (.str (leB n.toNat (bN m))) else none
  | _ => none
theorem qRefNumber_ok (args : List D) (d : D) (h : qRefNumber args = some d) : PCall Try.prog 48 args d := by
  unfold qRefNumber at h
  split at h
  · rename_i n m
    split at h
    · rename_i hn
      cases h
      obtain ⟨k, rfl⟩ := Int.eq_ofNat_of_zero_le hn.1
      simp only [Int.toNat_natCast]
      exact refNumber_c k m (by omega)
    · cases h
  · cases h

/-- The document's reader takes so many bytes. -/
theorem refBytes_c (s : List UInt8) (k : Int) (m : Nat) (hm : m ≤ s.length) : PCall Try.prog 73 [.agg [.str s, .int .i64 k, .int .i64 0], .int .i64 m] (.tuple [.agg [.str (s.drop m), .int .i64 (IntKind.i64.wrap (k + m)), .int .i64 0], .str (s.take m)]) := by
  refine PCall.run (Tab.zero_ok _) st73 (by simp) fun E => ?_
  have e1 : ((m : Int) > (s.length : Int)) = False := by simp; omega
  have e3 : ((m : Int) < 0) = False := by simp
  have e4 : (s.drop m).take (s.length - m) = s.drop m := List.take_of_length_le (by simp)
  simp only [s73, e1, e3, e4, decide_false, ↓reduceIte, Nat.reduceEqDiff, Nat.reduceBEq, Int.reduceLT, Int.reduceLE, Int.reduceToNat, Int.reduceEq, Int.reduceAdd, Int.reduceSub, Int.reduceMul, Int.reduceNeg, Nat.reduceMul, Nat.reduceSub, Nat.reduceLeDiff, Nat.reduceLT, Int.reduceGT, Int.reduceBEq, Int.reduceBNe, Int.cast_ofNat_Int, Int.toNat_zero, forall_eq', run_skip, run_exit, run_ret, run_seq, run_block, run_cond, pickC_true, pickC_false, pickC_bool, todo_stm, todo_stm_ret, todo_stm_exit, todo_blk, todo_blk_ret, todo_blk_exit, todo_lp, todo_lp_ret, todo_lp_exit, todo_nil, vcOps_nil, vc_ops, kont_app, ask_some, ask_none, ask_ite, ask_ite_none, askH_some, askH_none, askH_ite, op_p, op_n, op_g, guard_tt, guard_ff, guard_tf, guard_ft, guard_t, guard_f, guard_no, i_alloc, i_box, i_bs, i_load, i_loadOf, i_callA, i_store, i_storeNe, fresh_ite, encB_nil, and_imp, i_str_row, strRow_enc, i_str_sl, i_str_nil, i_str_one, i_slice_row, i_slice_str, i_slice_sl, i_slice_ptr, i_index_row, i_index_any, askE_enc, i_index_csl, i_len_str, i_len_arr, i_len_nil, i_len_sl, i_len_row, i_len_csl, i_makeSlice, i_call, i_qcall, i_panic, i_append, srcOf_str, srcOf_sl, app_nil, app_row, appR_row, enc_cells, v_mov, v_pick, v_build, v_bs, v_nc_ptr, v_nc_eptr, v_nc_rptr, v_nc_func, v_bin, v_eql, v_un, v_intInt, v_intFloat, v_same, v_strBytes, v_slice, v_fa_ptr, v_fa_eptr, v_fa_rptr, v_field, v_ia_ptr, v_ia_eptr, v_ia_rptr, v_indexA, v_indexS, v_is_enc, v_is_csl, v_extract, v_mkIface, v_mkFunc, v_max, v_min, v_len0, Ins.map, Fr.ev, Fr.put_some, Fr.put_none, Fr.put_defs, argFr, argE, binEv, intEv, shEv, strEv, unEv, Fr.mark, evRes, tup, retP_iff, retN_iff, retS_ret, retS_normal, retF_ret, retF_normal, bounds_nn, bounds_ns, bounds_sn, bounds_ss, slice_str, map_ite, ex_ite, lenD, mkFr_env, mkFr_defs, leL_nil, leL_cons, List.replicate_succ, List.replicate_zero, List.forall_mem_cons, List.not_mem_nil, Nat.zero_lt_succ, Nat.lt_add_one, enc_all, enc_dec, enc_append, enc_take, enc_drop, len_encB, AHeap.set_set, Int.toNat_natCast, lookupD, loadD, partD, storeD, cellsD, cellOk, setAt, plain_undef, frz_undef, plain_bool, frz_bool, plain_int, frz_int, plain_float, frz_float, plain_str, frz_str, plain_nilptr, frz_nilptr, plain_ptr, frz_ptr, plain_eptr, frz_eptr, plain_rptr, frz_rptr, plain_sl, frz_sl, plain_csl, frz_csl, plain_tuple, frz_tuple, plain_func, frz_func, plain_nilfunc, frz_nilfunc, plain_iface, frz_iface, plain_nilif, frz_nilif, plain_map, frz_map, plain_nilmap, frz_nilmap, plC_undef, plC_bool, plC_int, plC_float, plC_str, plC_nilptr, plC_ptr, plC_eptr, plC_rptr, plC_sl, plC_csl, plC_tuple, plC_func, plC_nilfunc, plC_iface, plC_nilif, plC_map, plC_nilmap, plain_nilsl, frz_nilsl, plain_row, plR_row, frz_row, frzR_row, frzL_nil, frzL_cons, plain_agg', plC_nilsl, plC_row, frza_nil, frza_row, frza_undef, frza_bool, frza_int, frza_float, frza_str, frza_nilptr, frza_ptr, frza_eptr, frza_rptr, frza_nilsl, frza_sl, frza_csl, frza_func, frza_nilfunc, frza_iface, frza_nilif, frza_map, frza_nilmap, objNe, objSame, eqEv, readEv, buildD, buildRows, rowsOf, elemsOf, AHeap.set_f, AHeap.emp_f, Option.map_some, Option.map_none, Option.some.injEq, exists_eq_left', exists_eq_left, true_and, and_true, List.map_cons, List.map_nil, List.append_nil, List.nil_append, List.cons_append, List.foldl_cons, List.foldl_nil, List.all_cons, List.all_nil, Bool.and_true, Bool.and_self, Bool.true_and, List.length_cons, List.length_nil, List.getElem?_cons_zero, List.getElem?_cons_succ, List.set_cons_zero, List.set_cons_succ, forall_const, reduceCtorEq, false_implies, implies_true, true_implies, Bool.not_true, Bool.not_false, decide_eq_true_eq, decide_eq_false_iff_not, Bool.true_eq_false, Bool.false_eq_true, AOut.ret.injEq, Nat.zero_add, Nat.add_zero, Nat.reduceAdd, beq_self_eq_true, bne_self_eq_false, cond_true, cond_false, List.drop_zero, Nat.sub_zero, D.int.injEq, D.str.injEq, D.bool.injEq, D.tuple.injEq, D.agg.injEq, D.sl.injEq, List.cons.injEq, or_true, true_or, or_false, false_or, and_self, not_true_eq_false, not_false_eq_true, ne_eq]
  intro id1 id2 f1 f2
  have e5 : ((m : Int) < 0) = False := by simp
  simp only [f1, f2, e1, e3, e4, List.drop_zero, List.take, ↓reduceIte, Nat.reduceEqDiff, Nat.reduceBEq, Int.reduceLT, Int.reduceLE, Int.reduceToNat, Int.reduceEq, Int.reduceAdd, Int.reduceSub, Int.reduceMul, Int.reduceNeg, Nat.reduceMul, Nat.reduceSub, Nat.reduceLeDiff, Nat.reduceLT, Int.reduceGT, Int.reduceBEq, Int.reduceBNe, Int.cast_ofNat_Int, Int.toNat_zero, forall_eq', run_skip, run_exit, run_ret, run_seq, run_block, run_cond, pickC_true, pickC_false, pickC_bool, todo_stm, todo_stm_ret, todo_stm_exit, todo_blk, todo_blk_ret, todo_blk_exit, todo_lp, todo_lp_ret, todo_lp_exit, todo_nil, vcOps_nil, vc_ops, kont_app, ask_some, ask_none, ask_ite, ask_ite_none, askH_some, askH_none, askH_ite, op_p, op_n, op_g, guard_tt, guard_ff, guard_tf, guard_ft, guard_t, guard_f, guard_no, i_alloc, i_box, i_bs, i_load, i_loadOf, i_callA, i_store, i_storeNe, fresh_ite, encB_nil, and_imp, i_str_row, strRow_enc, i_str_sl, i_str_nil, i_str_one, i_slice_row, i_slice_str, i_slice_sl, i_slice_ptr, i_index_row, i_index_any, askE_enc, i_index_csl, i_len_str, i_len_arr, i_len_nil, i_len_sl, i_len_row, i_len_csl, i_makeSlice, i_call, i_qcall, i_panic, i_append, srcOf_str, srcOf_sl, app_nil, app_row, appR_row, enc_cells, v_mov, v_pick, v_build, v_bs, v_nc_ptr, v_nc_eptr, v_nc_rptr, v_nc_func, v_bin, v_eql, v_un, v_intInt, v_intFloat, v_same, v_strBytes, v_slice, v_fa_ptr, v_fa_eptr, v_fa_rptr, v_field, v_ia_ptr, v_ia_eptr, v_ia_rptr, v_indexA, v_indexS, v_is_enc, v_is_csl, v_extract, v_mkIface, v_mkFunc, v_max, v_min, v_len0, Ins.map, Fr.ev, Fr.put_some, Fr.put_none, Fr.put_defs, argFr, argE, binEv, intEv, shEv, strEv, unEv, Fr.mark, evRes, tup, retP_iff, retN_iff, retS_ret, retS_normal, retF_ret, retF_normal, bounds_nn, bounds_ns, bounds_sn, bounds_ss, slice_str, map_ite, ex_ite, lenD, mkFr_env, mkFr_defs, leL_nil, leL_cons, List.replicate_succ, List.replicate_zero, List.forall_mem_cons, List.not_mem_nil, Nat.zero_lt_succ, Nat.lt_add_one, enc_all, enc_dec, enc_append, enc_take, enc_drop, len_encB, AHeap.set_set, Int.toNat_natCast, lookupD, loadD, partD, storeD, cellsD, cellOk, setAt, plain_undef, frz_undef, plain_bool, frz_bool, plain_int, frz_int, plain_float, frz_float, plain_str, frz_str, plain_nilptr, frz_nilptr, plain_ptr, frz_ptr, plain_eptr, frz_eptr, plain_rptr, frz_rptr, plain_sl, frz_sl, plain_csl, frz_csl, plain_tuple, frz_tuple, plain_func, frz_func, plain_nilfunc, frz_nilfunc, plain_iface, frz_iface, plain_nilif, frz_nilif, plain_map, frz_map, plain_nilmap, frz_nilmap, plC_undef, plC_bool, plC_int, plC_float, plC_str, plC_nilptr, plC_ptr, plC_eptr, plC_rptr, plC_sl, plC_csl, plC_tuple, plC_func, plC_nilfunc, plC_iface, plC_nilif, plC_map, plC_nilmap, plain_nilsl, frz_nilsl, plain_row, plR_row, frz_row, frzR_row, frzL_nil, frzL_cons, plain_agg', plC_nilsl, plC_row, frza_nil, frza_row, frza_undef, frza_bool, frza_int, frza_float, frza_str, frza_nilptr, frza_ptr, frza_eptr, frza_rptr, frza_nilsl, frza_sl, frza_csl, frza_func, frza_nilfunc, frza_iface, frza_nilif, frza_map, frza_nilmap, objNe, objSame, eqEv, readEv, buildD, buildRows, rowsOf, elemsOf, AHeap.set_f, AHeap.emp_f, Option.map_some, Option.map_none, Option.some.injEq, exists_eq_left', exists_eq_left, true_and, and_true, List.map_cons, List.map_nil, List.append_nil, List.nil_append, List.cons_append, List.foldl_cons, List.foldl_nil, List.all_cons, List.all_nil, Bool.and_true, Bool.and_self, Bool.true_and, List.length_cons, List.length_nil, List.getElem?_cons_zero, List.getElem?_cons_succ, List.set_cons_zero, List.set_cons_succ, forall_const, reduceCtorEq, false_implies, implies_true, true_implies, Bool.not_true, Bool.not_false, decide_eq_true_eq, decide_eq_false_iff_not, Bool.true_eq_false, Bool.false_eq_true, AOut.ret.injEq, Nat.zero_add, Nat.add_zero, Nat.reduceAdd, beq_self_eq_true, bne_self_eq_false, cond_true, cond_false, List.drop_zero, Nat.sub_zero, D.int.injEq, D.str.injEq, D.bool.injEq, D.tuple.injEq, D.agg.injEq, D.sl.injEq, List.cons.injEq, or_true, true_or, or_false, false_or, and_self, not_true_eq_false, not_false_eq_true, ne_eq]
  intro _
  exact ⟨by omega, by omega, by simp [f1]⟩
def qRefBytes : List D → Option D
  | [.agg [.str s, .int .i64 k, .int .i64 0], .int .i64 m] => if 0 ≤ m ∧ m ≤ s.length then some (.tuple [.agg [.str (s.drop m.toNat), .int .i64 (IntKind.i64.wrap (k + m)), .int .i64 0], .str (s.take m.toNat)]) else none
  | _ => none
theorem qRefBytes_ok (args : List D) (d : D) (h : qRefBytes args = some d) : PCall Try.prog 73 args d := by
  unfold qRefBytes at h
  split at h
  · rename_i s k m
    split at h
    · rename_i hn
      cases h
      obtain ⟨n, rfl⟩ := Int.eq_ofNat_of_zero_le hn.1
      simp only [Int.toNat_natCast]
      exact refBytes_c s k n (by omega)
    · cases h
  · cases h
end Go.Proofs.Ytaimobfakcompaa.Zz
