/- The law of a nil decoder. -/
import Derived.Test.YtaimobfakcompaaZB4
namespace Go.Proofs.Ytaimobfakcompaa.Zz
set_option linter.unusedVariables false
set_option linter.unusedSimpArgs false
set_option maxRecDepth 20000

def p18 : Plan := ⟨⟨[], [(1, 0), (5, 3), (6, 3), (7, 24)], [], [], [], [(1, 0)]⟩, []⟩
/-- cupel/cupellaw22.awake (0 parameters, 0 captured) -/
def s18 : Stm :=
  .seq (.ops [⟨.mov (.c (.bool false)), (some 0), none, true⟩])
  (.seq (.ops [⟨.callA 14, (some 7), none, false⟩,
     ⟨.mov (.t 7), (some 1), none, true⟩])
  (.seq (.ops [⟨.qcall (.f 16) [(.c (.str [97, 98, 99]))], (some 8), none, false⟩,
     ⟨.mov (.t 8), (some 2), none, true⟩])
  (.seq (.seq (.ops [⟨.mov (.t 2), (some 9), none, true⟩,
      ⟨.len .str (.t 9), (some 10), none, false⟩,
      ⟨.bin .neq (.t 10) (.c (.int .i64 7)), (some 11), none, true⟩])
   (.cond (.t 11)
    (.seq (.ops [⟨.mov (.c (.bool false)), (some 0), none, true⟩])
     (.ret))
    (.skip)))
  (.seq (.ops [⟨.mov (.t 1), (some 13), none, true⟩,
     ⟨.mov (.t 2), (some 14), none, true⟩,
     ⟨.slice .str (.t 14) none (some (.c (.int .i64 5))) none, (some 15), none, false⟩,
     ⟨.call (.f 17) [(.t 13), (.t 15)], (some 16), none, false⟩,
     ⟨.mov (.t 16), (some 12), none, true⟩,
     ⟨.extract (.t 12) 0, (some 17), none, true⟩,
     ⟨.extract (.t 12) 1, (some 18), none, true⟩,
     ⟨.mov (.t 17), (some 3), none, true⟩,
     ⟨.mov (.t 18), (some 4), none, true⟩])
  (.seq (.ops [⟨.mov (.t 1), (some 20), none, true⟩,
     ⟨.mov (.t 2), (some 21), none, true⟩,
     ⟨.slice .str (.t 21) (some (.c (.int .i64 5))) none none, (some 22), none, false⟩,
     ⟨.call (.f 17) [(.t 20), (.t 22)], (some 23), none, false⟩,
     ⟨.mov (.t 23), (some 19), none, true⟩,
     ⟨.extract (.t 19) 0, (some 24), none, true⟩,
     ⟨.extract (.t 19) 1, (some 25), none, true⟩,
     ⟨.mov (.t 24), (some 5), none, true⟩,
     ⟨.mov (.t 25), (some 6), none, true⟩])
  (.seq (.ops [⟨.mov (.t 4), (some 26), none, true⟩,
     ⟨.bin .eql (.t 26) (.c (.int .i64 0)), (some 27), none, true⟩,
     ⟨.mov (.t 27), (some 28), none, true⟩,
     ⟨.mov (.t 6), (some 29), (some (28, true)), true⟩,
     ⟨.bin .eql (.t 29) (.c (.int .i64 0)), (some 30), (some (28, true)), true⟩,
     ⟨.pick (.t 28) (.t 30) (.c (.bool false)), (some 31), none, true⟩,
     ⟨.mov (.t 31), (some 32), none, true⟩,
     ⟨.mov (.t 3), (some 33), (some (32, true)), true⟩,
     ⟨.len .sl (.t 33), (some 34), (some (32, true)), false⟩,
     ⟨.bin .eql (.t 34) (.c (.int .i64 0)), (some 35), (some (32, true)), true⟩,
     ⟨.pick (.t 32) (.t 35) (.c (.bool false)), (some 36), none, true⟩,
     ⟨.mov (.t 36), (some 37), none, true⟩,
     ⟨.mov (.t 5), (some 38), (some (37, true)), true⟩,
     ⟨.len .sl (.t 38), (some 39), (some (37, true)), false⟩,
     ⟨.bin .eql (.t 39) (.c (.int .i64 1)), (some 40), (some (37, true)), true⟩,
     ⟨.pick (.t 37) (.t 40) (.c (.bool false)), (some 41), none, true⟩,
     ⟨.mov (.t 41), (some 42), none, true⟩,
     ⟨.mov (.t 5), (some 43), (some (42, true)), true⟩,
     ⟨.indexAddrS 1 (.t 43) (.c (.int .i64 0)), (some 44), (some (42, true)), false⟩,
     ⟨.load none (.t 44), (some 45), (some (42, true)), false⟩,
     ⟨.bin .eql (.t 45) (.c (.str [97, 98, 99])), (some 46), (some (42, true)), true⟩,
     ⟨.pick (.t 42) (.t 46) (.c (.bool false)), (some 47), none, true⟩,
     ⟨.mov (.t 47), (some 48), none, true⟩,
     ⟨.mov (.t 1), (some 49), (some (48, true)), true⟩,
     ⟨.call (.f 21) [(.t 49)], (some 50), (some (48, true)), false⟩,
     ⟨.bin .eql (.t 50) (.c (.int .i64 0)), (some 51), (some (48, true)), true⟩,
     ⟨.pick (.t 48) (.t 51) (.c (.bool false)), (some 52), none, true⟩,
     ⟨.mov (.t 52), (some 0), none, true⟩])
  (.ret)))))))
theorem st18 : stmOf Try.prog 18 p18 = some (s18, [.tmp 0], 53) := by kernel_rfl

def p5 : Plan := ⟨⟨[], [(2, 2), (3, 12), (3, 17)], [], [], [], []⟩, []⟩
/-- cupel/cupellaw22.ProtoNil (1 parameters, 0 captured) -/
def s5 : Stm :=
  .seq (.ops [⟨.mov (.c (.bool false)), (some 2), none, true⟩])
  (.seq (.ops [⟨.mov (.c .nilptr), (some 3), none, true⟩])
  (.seq (.ops [⟨.mov (.t 3), (some 7), none, true⟩,
     ⟨.mov (.t 0), (some 8), none, true⟩,
     ⟨.call (.f 17) [(.t 7), (.t 8)], (some 9), none, false⟩,
     ⟨.mov (.t 9), (some 6), none, true⟩,
     ⟨.extract (.t 6) 0, (some 10), none, true⟩,
     ⟨.extract (.t 6) 1, (some 11), none, true⟩,
     ⟨.mov (.t 10), (some 4), none, true⟩,
     ⟨.mov (.t 11), (some 5), none, true⟩])
  (.seq (.ops [⟨.qcall (.f 18) [], (some 12), none, false⟩,
     ⟨.mov (.t 12), (some 13), none, true⟩,
     ⟨.mov (.t 4), (some 14), (some (13, true)), true⟩,
     ⟨.len .sl (.t 14), (some 15), (some (13, true)), false⟩,
     ⟨.bin .eql (.t 15) (.c (.int .i64 0)), (some 16), (some (13, true)), true⟩,
     ⟨.pick (.t 13) (.t 16) (.c (.bool false)), (some 17), none, true⟩,
     ⟨.mov (.t 17), (some 18), none, true⟩,
     ⟨.mov (.t 5), (some 19), (some (18, true)), true⟩,
     ⟨.bin .eql (.t 19) (.c (.int .i64 220)), (some 20), (some (18, true)), true⟩,
     ⟨.pick (.t 18) (.t 20) (.c (.bool false)), (some 21), none, true⟩,
     ⟨.mov (.t 21), (some 22), none, true⟩,
     ⟨.mov (.t 3), (some 23), (some (22, true)), true⟩,
     ⟨.call (.f 21) [(.t 23)], (some 24), (some (22, true)), false⟩,
     ⟨.bin .eql (.t 24) (.c (.int .i64 0)), (some 25), (some (22, true)), true⟩,
     ⟨.pick (.t 22) (.t 25) (.c (.bool false)), (some 26), none, true⟩,
     ⟨.mov (.t 26), (some 27), none, true⟩,
     ⟨.mov (.t 3), (some 28), (some (27, true)), true⟩,
     ⟨.call (.f 22) [(.t 28)], (some 29), (some (27, true)), false⟩,
     ⟨.pick (.t 27) (.t 29) (.c (.bool false)), (some 30), none, true⟩,
     ⟨.mov (.t 30), (some 2), none, true⟩])
  (.ret))))
theorem st5 : stmOf Try.prog 5 p5 = some (s5, [.tmp 2], 31) := by kernel_rfl

def qFrame : List D → Option D
  | [.str s] => if s.length ≤ 1000000 then some (.str (frame s)) else none
  | _ => none
theorem qFrame_ok (args : List D) (d : D) (h : qFrame args = some d) : PCall Try.prog 16 args d := by
  unfold qFrame at h
  split at h
  · split at h
    · cases h; exact frame_c _ (by assumption)
    · cases h
  · cases h
def tb14 : Tab := Tab.zero.addA 14 [.str [], .bool false]
theorem tb14_q : tb14.q = Tab.zero.q := rfl
theorem tb14_a (g : FuncId) : tb14.a g = if g = 14 then some [.str [], .bool false] else Tab.zero.a g := rfl
theorem tb14_c : tb14.c = Tab.zero.c := rfl
theorem tb14_ok : tb14.ok Try.prog := Tab.addA_ok (Tab.zero_ok _) newDecoder_c

def tb17 : Tab := tb14.addW 17 cFeed cFeed_mono
theorem tb17_q : tb17.q = tb14.q := rfl
theorem tb17_a : tb17.a = tb14.a := rfl
theorem tb17_c (g : FuncId) (args : List D) (h : AHeap) (K E : D → AHeap → Prop) : tb17.c g args h K E = if g = 17 then cFeed args h K else tb14.c g args h K E := rfl
theorem tb17_ok : tb17.ok Try.prog := Tab.addW_ok tb14_ok cFeed_ok

def tb21 : Tab := tb17.addS 21 s21 [.tmp 2] 10
theorem tb21_q : tb21.q = tb17.q := rfl
theorem tb21_a : tb21.a = tb17.a := rfl
theorem tb21_c (g : FuncId) (args : List D) (h : AHeap) (K E : D → AHeap → Prop) : tb21.c g args h K E = if g = 21 then (args.length ≤ 10 ∧ vc tb17 s21 (todo tb17 (retS [.tmp 2] K) (panS E) []) (panS E) (argFr args) h) else tb17.c g args h K E := rfl
theorem tb21_ok : tb21.ok Try.prog := Tab.addS_ok tb17_ok st21

def tb22 : Tab := tb21.addS 22 s22 [.tmp 2] 11
theorem tb22_q : tb22.q = tb21.q := rfl
theorem tb22_a : tb22.a = tb21.a := rfl
theorem tb22_c (g : FuncId) (args : List D) (h : AHeap) (K E : D → AHeap → Prop) : tb22.c g args h K E = if g = 22 then (args.length ≤ 11 ∧ vc tb21 s22 (todo tb21 (retS [.tmp 2] K) (panS E) []) (panS E) (argFr args) h) else tb21.c g args h K E := rfl
theorem tb22_ok : tb22.ok Try.prog := Tab.addS_ok tb21_ok st22

def tb16 : Tab := tb22.addQ 16 qFrame
theorem tb16_q (g : FuncId) (args : List D) : tb16.q g args = if g = 16 then qFrame args else tb22.q g args := rfl
theorem tb16_a : tb16.a = tb22.a := rfl
theorem tb16_c : tb16.c = tb22.c := rfl
theorem tb16_ok : tb16.ok Try.prog := Tab.addQ_ok tb22_ok qFrame_ok


set_option maxHeartbeats 2000000 in
theorem awake_c : PCall Try.prog 18 [] (.bool true) := by
  refine PCall.run tb16_ok st18 (by simp) fun E => ?_
  have t1 : frame [97, 98, 99] = [3, 0, 0, 0, 97, 98, 99] := by decide
  have t2 : List.take 5 ([3, 0, 0, 0, 97, 98, 99] : List UInt8) = [3, 0, 0, 0, 97] := rfl
  have t3 : List.take 2 (List.drop 5 ([3, 0, 0, 0, 97, 98, 99] : List UInt8)) = [98, 99] := rfl
  have t4 : feed [] [3, 0, 0, 0, 97] = ([], [3, 0, 0, 0, 97], false) := by decide
  have t5 : feed [3, 0, 0, 0, 97] [98, 99] = ([[97, 98, 99]], [], false) := by decide
  have t6 : encS [] = [] := rfl
  have t7 : encS [[97, 98, 99]] = [[.str [97, 98, 99]]] := rfl
  simp (config := {maxSteps := 1000000}) only [s18, s21, qFrame, askE, cFeed_eq, cFeed_nil, cFeedO_eq, cFeedO_dead, t1, t2, t3, t4, t5, t6, t7, tb14_q, tb14_a, tb14_c, tb17_q, tb17_a, tb17_c, tb21_q, tb21_a, tb21_c, tb22_q, tb22_a, tb22_c, tb16_q, tb16_a, tb16_c, tb88_q, tb88_a, tb88_c, tb43_q, tb43_a, tb43_c, tb69_q, tb69_a, tb69_c, tb83_q, tb83_a, tb83_c, tb68_q, tb68_a, tb68_c, tb44_q, tb44_a, tb44_c, tb45_q, tb45_a, tb45_c, tb46_q, tb46_a, tb46_c, tb70_q, tb70_a, tb70_c, tb71_q, tb71_a, tb71_c, ↓reduceIte, Nat.reduceEqDiff, Nat.reduceBEq, Int.reduceLT, Int.reduceLE, Int.reduceToNat, Int.reduceEq, Int.reduceAdd, Int.reduceSub, Int.reduceMul, Int.reduceNeg, Nat.reduceMul, Nat.reduceSub, Nat.reduceLeDiff, Nat.reduceLT, Int.reduceGT, Int.reduceBEq, Int.reduceBNe, Int.cast_ofNat_Int, Int.toNat_zero, forall_eq', run_skip, run_exit, run_ret, run_seq, run_block, run_cond, choose_b, todo_stm, todo_stm_ret, todo_stm_exit, todo_blk, todo_blk_ret, todo_blk_exit, todo_lp, todo_lp_ret, todo_lp_exit, todo_nil, vcOps_nil, vc_ops, kont_app, ask_some, ask_none, ask_ite, ask_ite_none, askH_some, askH_none, askH_ite, op_p, op_n, op_g, guard_bt, guard_bf, guard_no, i_alloc, i_box, i_bs, i_load, i_loadOf, i_callA, i_store, i_storeNe, fresh_ite, encB_nil, and_imp, i_str_row, strRow_enc, i_str_sl, i_str_nil, i_str_one, i_slice_row, i_slice_str, i_slice_sl, i_slice_ptr, i_index_row, i_index_any, askE_enc, i_index_csl, i_len_str, i_len_arr, i_len_nil, i_len_sl, i_len_row, i_len_csl, i_makeSlice, i_call, i_qcall, i_panic, i_append, srcOf_str, srcOf_sl, app_nil, app_row, appR_row, enc_cells, v_mov, v_pick, v_build, v_bs, v_nc_ptr, v_nc_eptr, v_nc_rptr, v_nc_func, v_bin, v_eql, v_un, v_intInt, v_intFloat, v_same, v_strBytes, v_slice, v_fa_ptr, v_fa_eptr, v_fa_rptr, v_field, v_ia_ptr, v_ia_eptr, v_ia_rptr, v_indexA, v_indexS, v_is_enc, v_is_csl, v_extract, v_mkIface, v_mkFunc, v_max, v_min, v_len0, Ins.map, Fr.ev, Fr.put_some, Fr.put_none, Fr.put_defs, argFr, argE, binEv, intEv, shEv, strEv, unEv, Fr.mark, evRes, tup, retP_iff, retN_iff, retS_ret, retS_normal, retF_ret, retF_normal, bounds_nn, bounds_ns, bounds_sn, bounds_ss, slice_str, map_ite, ex_ite, lenD, mkFr_env, mkFr_defs, leL_nil, leL_cons, List.replicate_succ, List.replicate_zero, List.forall_mem_cons, List.not_mem_nil, Nat.zero_lt_succ, Nat.lt_add_one, enc_all, enc_dec, enc_append, enc_take, enc_drop, len_encB, AHeap.set_set, Int.toNat_natCast, lookupD, loadD, partD, storeD, cellsD, cellOk, setAt, plain_undef, frz_undef, plain_bool, frz_bool, plain_int, frz_int, plain_float, frz_float, plain_str, frz_str, plain_nilptr, frz_nilptr, plain_ptr, frz_ptr, plain_eptr, frz_eptr, plain_rptr, frz_rptr, plain_sl, frz_sl, plain_csl, frz_csl, plain_tuple, frz_tuple, plain_func, frz_func, plain_nilfunc, frz_nilfunc, plain_iface, frz_iface, plain_nilif, frz_nilif, plain_map, frz_map, plain_nilmap, frz_nilmap, plC_undef, plC_bool, plC_int, plC_float, plC_str, plC_nilptr, plC_ptr, plC_eptr, plC_rptr, plC_sl, plC_csl, plC_tuple, plC_func, plC_nilfunc, plC_iface, plC_nilif, plC_map, plC_nilmap, plain_nilsl, frz_nilsl, plain_row, plR_row, frz_row, frzR_row, frzL_nil, frzL_cons, plain_agg', plC_nilsl, plC_row, frza_nil, frza_row, frza_undef, frza_bool, frza_int, frza_float, frza_str, frza_nilptr, frza_ptr, frza_eptr, frza_rptr, frza_nilsl, frza_sl, frza_csl, frza_func, frza_nilfunc, frza_iface, frza_nilif, frza_map, frza_nilmap, objNe, objSame, eqEv, readEv, buildD, buildRows, rowsOf, elemsOf, AHeap.set_f, AHeap.emp_f, Option.map_some, Option.map_none, Option.some.injEq, exists_eq_left', exists_eq_left, true_and, and_true, List.map_cons, List.map_nil, List.append_nil, List.nil_append, List.cons_append, List.foldl_cons, List.foldl_nil, List.all_cons, List.all_nil, Bool.and_true, Bool.and_self, Bool.true_and, List.length_cons, List.length_nil, List.getElem?_cons_zero, List.getElem?_cons_succ, List.set_cons_zero, List.set_cons_succ, forall_const, reduceCtorEq, false_implies, implies_true, true_implies, Bool.not_true, Bool.not_false, decide_eq_true_eq, decide_eq_false_iff_not, Bool.true_eq_false, Bool.false_eq_true, AOut.ret.injEq, Nat.zero_add, Nat.add_zero, Nat.reduceAdd, beq_self_eq_true, bne_self_eq_false, cond_true, cond_false, List.drop_zero, Nat.sub_zero, D.int.injEq, D.str.injEq, D.bool.injEq, D.tuple.injEq, D.agg.injEq, D.sl.injEq, List.cons.injEq, or_true, true_or, or_false, false_or, and_self, not_true_eq_false, not_false_eq_true, ne_eq]
end Go.Proofs.Ytaimobfakcompaa.Zz
