/- Contracts: the wire's writers and readers. -/
import Derived.Test.YtaimobfakcompaaZB1
namespace Go.Proofs.Ytaimobfakcompaa.Zz
set_option linter.unusedVariables false
set_option linter.unusedSimpArgs false

def p43 : Plan := ⟨⟨[], [], [], [], [], []⟩, []⟩
/-- cupel/wire.NewWriter (0 parameters, 0 captured) -/
def s43 : Stm :=
  .seq (.ops [⟨.mov (.c .nilptr), (some 0), none, true⟩])
  (.seq (.ops [⟨.build [.nilsl] [], (some 1), none, true⟩,
     ⟨.box (.t 1), (some 2), none, false⟩,
     ⟨.mov (.t 2), (some 0), none, true⟩])
  (.ret))
theorem st43 : stmOf Try.prog 43 p43 = some (s43, [.tmp 0], 3) := by kernel_rfl

def p69 : Plan := ⟨⟨[], [], [], [], [], []⟩, []⟩
/-- (*cupel/wire.Writer).Bytes (2 parameters, 0 captured) -/
def s69 : Stm :=
  .seq (.ops [⟨.mov (.t 0), (some 4), none, true⟩,
     ⟨.eql .ptr true (.t 4) (.c .nilptr), (some 5), none, true⟩])
  (.cond (.t 5)
   (.ops [⟨.mov (.t 0), (some 6), none, true⟩,
      ⟨.mov (.t 0), (some 7), none, true⟩,
      ⟨.nilCheck (.t 7), (some 8), none, true⟩,
      ⟨.fieldAddr 0 (.t 8), (some 9), none, true⟩,
      ⟨.load none (.t 9), (some 10), none, false⟩,
      ⟨.mov (.t 1), (some 11), none, true⟩,
      ⟨.append 1 1 true (.t 10) (.t 11), (some 12), none, false⟩,
      ⟨.nilCheck (.t 6), (some 13), none, true⟩,
      ⟨.fieldAddr 0 (.t 13), (some 14), none, true⟩,
      ⟨.store 1 (.t 14) (.t 12), none, none, false⟩])
   (.skip))
theorem st69 : stmOf Try.prog 69 p69 = some (s69, [], 15) := by kernel_rfl

def p83 : Plan := ⟨⟨[], [(0, 4)], [], [], [], []⟩, []⟩
/-- (*cupel/wire.Writer).Number (3 parameters, 0 captured) -/
def s83 : Stm :=
  .ops [⟨.mov (.t 0), (some 6), none, true⟩,
    ⟨.mov (.t 1), (some 7), none, true⟩,
    ⟨.mov (.t 2), (some 8), none, true⟩,
    ⟨.qcall (.f 88) [(.t 7), (.t 8)], (some 9), none, false⟩,
    ⟨.call (.f 69) [(.t 6), (.t 9)], (some 10), none, false⟩]
theorem st83 : stmOf Try.prog 83 p83 = some (s83, [], 11) := by kernel_rfl

def p68 : Plan := ⟨⟨[], [(0, 4)], [], [], [], []⟩, []⟩
/-- (*cupel/wire.Writer).Count (2 parameters, 0 captured) -/
def s68 : Stm :=
  .ops [⟨.mov (.t 0), (some 4), none, true⟩,
    ⟨.mov (.t 1), (some 5), none, true⟩,
    ⟨.minmax true (.t 5) (.c (.int .i64 0)), (some 6), none, true⟩,
    ⟨.conv (.intInt .u64) (.t 6), (some 7), none, true⟩,
    ⟨.call (.f 83) [(.t 4), (.t 7), (.c (.int .i64 4))], (some 8), none, false⟩]
theorem st68 : stmOf Try.prog 68 p68 = some (s68, [], 9) := by kernel_rfl

def p44 : Plan := ⟨⟨[], [(0, 3), (1, 2)], [], [], [], []⟩, []⟩
/-- (*cupel/wire.Writer).Text (2 parameters, 0 captured) -/
def s44 : Stm :=
  .seq (.ops [⟨.mov (.t 0), (some 4), none, true⟩,
     ⟨.mov (.t 1), (some 5), none, true⟩,
     ⟨.len .str (.t 5), (some 6), none, false⟩,
     ⟨.call (.f 68) [(.t 4), (.t 6)], (some 7), none, false⟩])
  (.ops [⟨.mov (.t 0), (some 8), none, true⟩,
    ⟨.mov (.t 1), (some 9), none, true⟩,
    ⟨.call (.f 69) [(.t 8), (.t 9)], (some 10), none, false⟩])
theorem st44 : stmOf Try.prog 44 p44 = some (s44, [], 11) := by kernel_rfl

def p45 : Plan := ⟨⟨[], [], [], [], [], []⟩, []⟩
/-- (*cupel/wire.Writer).All (1 parameters, 0 captured) -/
def s45 : Stm :=
  .seq (.ops [⟨.mov (.c (.str [])), (some 2), none, true⟩])
  (.seq (.seq (.ops [⟨.mov (.t 0), (some 3), none, true⟩,
      ⟨.eql .ptr false (.t 3) (.c .nilptr), (some 4), none, true⟩])
   (.cond (.t 4)
    (.seq (.ops [⟨.mov (.c (.str [])), (some 2), none, true⟩])
     (.ret))
    (.skip)))
  (.seq (.ops [⟨.mov (.t 0), (some 5), none, true⟩,
     ⟨.nilCheck (.t 5), (some 6), none, true⟩,
     ⟨.fieldAddr 0 (.t 6), (some 7), none, true⟩,
     ⟨.load none (.t 7), (some 8), none, false⟩,
     ⟨.conv .bytesStr (.t 8), (some 9), none, false⟩,
     ⟨.mov (.t 9), (some 2), none, true⟩])
  (.ret)))
theorem st45 : stmOf Try.prog 45 p45 = some (s45, [.tmp 2], 10) := by kernel_rfl

def p16 : Plan := ⟨⟨[], [(1, 0), (2, 2), (3, 1)], [], [], [], [(1, 0)]⟩, []⟩
/-- cupel/proto.Frame (1 parameters, 0 captured) -/
def s16 : Stm :=
  .seq (.ops [⟨.mov (.c (.str [])), (some 2), none, true⟩])
  (.seq (.ops [⟨.callA 43, (some 4), none, false⟩,
     ⟨.mov (.t 4), (some 3), none, true⟩])
  (.seq (.ops [⟨.mov (.t 3), (some 5), none, true⟩,
     ⟨.mov (.t 0), (some 6), none, true⟩,
     ⟨.call (.f 44) [(.t 5), (.t 6)], (some 7), none, false⟩])
  (.seq (.ops [⟨.mov (.t 3), (some 8), none, true⟩,
     ⟨.call (.f 45) [(.t 8)], (some 9), none, false⟩,
     ⟨.mov (.t 9), (some 2), none, true⟩])
  (.ret))))
theorem st16 : stmOf Try.prog 16 p16 = some (s16, [.tmp 2], 10) := by kernel_rfl


theorem newWriter_c (h : AHeap) : ACalls Try.prog 43 [] h fun o h' => ∃ id, h.f id = none ∧ o = .ret (.ptr id 1 0) ∧ h' = h.set id (.cells [.nilsl]) := by
  refine (ACalls.run (K := fun d h' => ∃ id, h.f id = none ∧ d = .ptr id 1 0 ∧ h' = h.set id (.cells [.nilsl])) (Tab.zero_ok _) st43 (by simp) fun E => ?_).mono fun o h' ⟨d, e, id, a, b, c⟩ => ⟨id, a, by rw [e, b], c⟩
  simp only [s43, ↓reduceIte, Nat.reduceEqDiff, Nat.reduceBEq, Int.reduceLT, Int.reduceLE, Int.reduceToNat, Int.reduceEq, Int.reduceAdd, Int.reduceSub, Int.reduceMul, Int.reduceNeg, Nat.reduceMul, Nat.reduceSub, Nat.reduceLeDiff, Nat.reduceLT, Int.reduceGT, Int.reduceBEq, Int.reduceBNe, Int.cast_ofNat_Int, Int.toNat_zero, forall_eq', run_skip, run_exit, run_ret, run_seq, run_block, run_cond, pickC_true, pickC_false, pickC_bool, todo_stm, todo_stm_ret, todo_stm_exit, todo_blk, todo_blk_ret, todo_blk_exit, todo_lp, todo_lp_ret, todo_lp_exit, todo_nil, vcOps_nil, vc_ops, kont_app, ask_some, ask_none, ask_ite, ask_ite_none, askH_some, askH_none, askH_ite, op_p, op_n, op_g, guard_tt, guard_ff, guard_tf, guard_ft, guard_t, guard_f, guard_no, i_alloc, i_box, i_bs, i_load, i_loadOf, i_callA, i_store, i_storeNe, fresh_ite, encB_nil, and_imp, i_str_row, strRow_enc, i_str_sl, i_str_nil, i_str_one, i_slice_row, i_slice_str, i_slice_sl, i_slice_ptr, i_index_row, i_index_any, askE_enc, i_index_csl, i_len_str, i_len_arr, i_len_nil, i_len_sl, i_len_row, i_len_csl, i_makeSlice, i_call, i_qcall, i_panic, i_append, srcOf_str, srcOf_sl, app_nil, app_row, appR_row, enc_cells, v_mov, v_pick, v_build, v_bs, v_nc_ptr, v_nc_eptr, v_nc_rptr, v_nc_func, v_bin, v_eql, v_un, v_intInt, v_intFloat, v_same, v_strBytes, v_slice, v_fa_ptr, v_fa_eptr, v_fa_rptr, v_field, v_ia_ptr, v_ia_eptr, v_ia_rptr, v_indexA, v_indexS, v_is_enc, v_is_csl, v_extract, v_mkIface, v_mkFunc, v_max, v_min, v_len0, Ins.map, Fr.ev, Fr.put_some, Fr.put_none, Fr.put_defs, argFr, argE, binEv, intEv, shEv, strEv, unEv, Fr.mark, evRes, tup, retP_iff, retN_iff, retS_ret, retS_normal, retF_ret, retF_normal, bounds_nn, bounds_ns, bounds_sn, bounds_ss, slice_str, map_ite, ex_ite, lenD, mkFr_env, mkFr_defs, leL_nil, leL_cons, List.replicate_succ, List.replicate_zero, List.forall_mem_cons, List.not_mem_nil, Nat.zero_lt_succ, Nat.lt_add_one, enc_all, enc_dec, enc_append, enc_take, enc_drop, len_encB, AHeap.set_set, Int.toNat_natCast, lookupD, loadD, partD, storeD, cellsD, cellOk, setAt, plain_undef, frz_undef, plain_bool, frz_bool, plain_int, frz_int, plain_float, frz_float, plain_str, frz_str, plain_nilptr, frz_nilptr, plain_ptr, frz_ptr, plain_eptr, frz_eptr, plain_rptr, frz_rptr, plain_sl, frz_sl, plain_csl, frz_csl, plain_tuple, frz_tuple, plain_func, frz_func, plain_nilfunc, frz_nilfunc, plain_iface, frz_iface, plain_nilif, frz_nilif, plain_map, frz_map, plain_nilmap, frz_nilmap, plC_undef, plC_bool, plC_int, plC_float, plC_str, plC_nilptr, plC_ptr, plC_eptr, plC_rptr, plC_sl, plC_csl, plC_tuple, plC_func, plC_nilfunc, plC_iface, plC_nilif, plC_map, plC_nilmap, plain_nilsl, frz_nilsl, plain_row, plR_row, frz_row, frzR_row, frzL_nil, frzL_cons, plain_agg', plC_nilsl, plC_row, frza_nil, frza_row, frza_undef, frza_bool, frza_int, frza_float, frza_str, frza_nilptr, frza_ptr, frza_eptr, frza_rptr, frza_nilsl, frza_sl, frza_csl, frza_func, frza_nilfunc, frza_iface, frza_nilif, frza_map, frza_nilmap, objNe, objSame, eqEv, readEv, buildD, buildRows, rowsOf, elemsOf, AHeap.set_f, AHeap.emp_f, Option.map_some, Option.map_none, Option.some.injEq, exists_eq_left', exists_eq_left, true_and, and_true, List.map_cons, List.map_nil, List.append_nil, List.nil_append, List.cons_append, List.foldl_cons, List.foldl_nil, List.all_cons, List.all_nil, Bool.and_true, Bool.and_self, Bool.true_and, List.length_cons, List.length_nil, List.getElem?_cons_zero, List.getElem?_cons_succ, List.set_cons_zero, List.set_cons_succ, forall_const, reduceCtorEq, false_implies, implies_true, true_implies, Bool.not_true, Bool.not_false, decide_eq_true_eq, decide_eq_false_iff_not, Bool.true_eq_false, Bool.false_eq_true, AOut.ret.injEq, Nat.zero_add, Nat.add_zero, Nat.reduceAdd, beq_self_eq_true, bne_self_eq_false, cond_true, cond_false, List.drop_zero, Nat.sub_zero, D.int.injEq, D.str.injEq, D.bool.injEq, D.tuple.injEq, D.agg.injEq, D.sl.injEq, List.cons.injEq, or_true, true_or, or_false, false_or, and_self, not_true_eq_false, not_false_eq_true, ne_eq]
  intro id hid
  exact ⟨id, hid, rfl, rfl⟩

def qNumber : List D → Option D
  | [.int .u64 n, .int .i64 m] => if 0 ≤ n ∧ n < 18446744073709551616 then some (.str (leB n.toNat (bN m))) else none
  | _ => none
theorem qNumber_ok (args : List D) (d : D) (h : qNumber args = some d) : PCall Try.prog 88 args d := by
  unfold qNumber at h
  split at h
  · rename_i n m
    split at h
    · rename_i hn
      cases h
      obtain ⟨k, rfl⟩ := Int.eq_ofNat_of_zero_le hn.1
      simp only [Int.toNat_natCast]
      exact number_c k m (by omega)
    · cases h
  · cases h

def tb88 : Tab := Tab.zero.addQ 88 qNumber
theorem tb88_q (g : FuncId) (args : List D) : tb88.q g args = if g = 88 then qNumber args else Tab.zero.q g args := rfl
theorem tb88_a : tb88.a = Tab.zero.a := rfl
theorem tb88_c : tb88.c = Tab.zero.c := rfl
theorem tb88_ok : tb88.ok Try.prog := Tab.addQ_ok (Tab.zero_ok _) qNumber_ok

def tb43 : Tab := tb88.addA 43 [.nilsl]
theorem tb43_q : tb43.q = tb88.q := rfl
theorem tb43_a (g : FuncId) : tb43.a g = if g = 43 then some [.nilsl] else tb88.a g := rfl
theorem tb43_c : tb43.c = tb88.c := rfl
theorem tb43_ok : tb43.ok Try.prog := Tab.addA_ok tb88_ok newWriter_c

def tb69 : Tab := tb43.addS 69 s69 [] 15
theorem tb69_q : tb69.q = tb43.q := rfl
theorem tb69_a : tb69.a = tb43.a := rfl
theorem tb69_c (g : FuncId) (args : List D) (h : AHeap) (K E : D → AHeap → Prop) : tb69.c g args h K E = if g = 69 then (args.length ≤ 15 ∧ vc tb43 s69 (todo tb43 (retS [] K) (panS E) []) (panS E) (argFr args) h) else tb43.c g args h K E := rfl
theorem tb69_ok : tb69.ok Try.prog := Tab.addS_ok tb43_ok st69

def tb83 : Tab := tb69.addS 83 s83 [] 11
theorem tb83_q : tb83.q = tb69.q := rfl
theorem tb83_a : tb83.a = tb69.a := rfl
theorem tb83_c (g : FuncId) (args : List D) (h : AHeap) (K E : D → AHeap → Prop) : tb83.c g args h K E = if g = 83 then (args.length ≤ 11 ∧ vc tb69 s83 (todo tb69 (retS [] K) (panS E) []) (panS E) (argFr args) h) else tb69.c g args h K E := rfl
theorem tb83_ok : tb83.ok Try.prog := Tab.addS_ok tb69_ok st83

def tb68 : Tab := tb83.addS 68 s68 [] 9
theorem tb68_q : tb68.q = tb83.q := rfl
theorem tb68_a : tb68.a = tb83.a := rfl
theorem tb68_c (g : FuncId) (args : List D) (h : AHeap) (K E : D → AHeap → Prop) : tb68.c g args h K E = if g = 68 then (args.length ≤ 9 ∧ vc tb83 s68 (todo tb83 (retS [] K) (panS E) []) (panS E) (argFr args) h) else tb83.c g args h K E := rfl
theorem tb68_ok : tb68.ok Try.prog := Tab.addS_ok tb83_ok st68

def tb44 : Tab := tb68.addS 44 s44 [] 11
theorem tb44_q : tb44.q = tb68.q := rfl
theorem tb44_a : tb44.a = tb68.a := rfl
theorem tb44_c (g : FuncId) (args : List D) (h : AHeap) (K E : D → AHeap → Prop) : tb44.c g args h K E = if g = 44 then (args.length ≤ 11 ∧ vc tb68 s44 (todo tb68 (retS [] K) (panS E) []) (panS E) (argFr args) h) else tb68.c g args h K E := rfl
theorem tb44_ok : tb44.ok Try.prog := Tab.addS_ok tb68_ok st44

def tb45 : Tab := tb44.addS 45 s45 [.tmp 2] 10
theorem tb45_q : tb45.q = tb44.q := rfl
theorem tb45_a : tb45.a = tb44.a := rfl
theorem tb45_c (g : FuncId) (args : List D) (h : AHeap) (K E : D → AHeap → Prop) : tb45.c g args h K E = if g = 45 then (args.length ≤ 10 ∧ vc tb44 s45 (todo tb44 (retS [.tmp 2] K) (panS E) []) (panS E) (argFr args) h) else tb44.c g args h K E := rfl
theorem tb45_ok : tb45.ok Try.prog := Tab.addS_ok tb44_ok st45


/-- A frame: the length ahead of the body. -/
def frame (s : List UInt8) : List UInt8 := leB s.length 4 ++ s

theorem frame_c (s : List UInt8) (hs : s.length ≤ 1000000) : PCall Try.prog 16 [.str s] (.str (frame s)) := by
  refine PCall.run tb45_ok st16 (by simp) fun E => ?_
  have e1 : (if (s.length : Int) < 0 then 0 else (s.length : Int)) = s.length := if_neg (by omega)
  have e2 : IntKind.u64.wrap (s.length : Int) = s.length := wrap_u64 (by omega) (by omega)
  have e3 : bN 4 = 4 := rfl
  have e4 : (leB s.length 4 = []) = False := by simp [leB]
  simp (config := {contextual := true}) only [s16, s69, s83, s68, s44, s45, qNumber, e1, e2, e3, e4, tb88_q, tb88_a, tb88_c, tb43_q, tb43_a, tb43_c, tb69_q, tb69_a, tb69_c, tb83_q, tb83_a, tb83_c, tb68_q, tb68_a, tb68_c, tb44_q, tb44_a, tb44_c, tb45_q, tb45_a, tb45_c, ↓reduceIte, Nat.reduceEqDiff, Nat.reduceBEq, Int.reduceLT, Int.reduceLE, Int.reduceToNat, Int.reduceEq, Int.reduceAdd, Int.reduceSub, Int.reduceMul, Int.reduceNeg, Nat.reduceMul, Nat.reduceSub, Nat.reduceLeDiff, Nat.reduceLT, Int.reduceGT, Int.reduceBEq, Int.reduceBNe, Int.cast_ofNat_Int, Int.toNat_zero, forall_eq', run_skip, run_exit, run_ret, run_seq, run_block, run_cond, pickC_true, pickC_false, pickC_bool, todo_stm, todo_stm_ret, todo_stm_exit, todo_blk, todo_blk_ret, todo_blk_exit, todo_lp, todo_lp_ret, todo_lp_exit, todo_nil, vcOps_nil, vc_ops, kont_app, ask_some, ask_none, ask_ite, ask_ite_none, askH_some, askH_none, askH_ite, op_p, op_n, op_g, guard_tt, guard_ff, guard_tf, guard_ft, guard_t, guard_f, guard_no, i_alloc, i_box, i_bs, i_load, i_loadOf, i_callA, i_store, i_storeNe, fresh_ite, encB_nil, and_imp, i_str_row, strRow_enc, i_str_sl, i_str_nil, i_str_one, i_slice_row, i_slice_str, i_slice_sl, i_slice_ptr, i_index_row, i_index_any, askE_enc, i_index_csl, i_len_str, i_len_arr, i_len_nil, i_len_sl, i_len_row, i_len_csl, i_makeSlice, i_call, i_qcall, i_panic, i_append, srcOf_str, srcOf_sl, app_nil, app_row, appR_row, enc_cells, v_mov, v_pick, v_build, v_bs, v_nc_ptr, v_nc_eptr, v_nc_rptr, v_nc_func, v_bin, v_eql, v_un, v_intInt, v_intFloat, v_same, v_strBytes, v_slice, v_fa_ptr, v_fa_eptr, v_fa_rptr, v_field, v_ia_ptr, v_ia_eptr, v_ia_rptr, v_indexA, v_indexS, v_is_enc, v_is_csl, v_extract, v_mkIface, v_mkFunc, v_max, v_min, v_len0, Ins.map, Fr.ev, Fr.put_some, Fr.put_none, Fr.put_defs, argFr, argE, binEv, intEv, shEv, strEv, unEv, Fr.mark, evRes, tup, retP_iff, retN_iff, retS_ret, retS_normal, retF_ret, retF_normal, bounds_nn, bounds_ns, bounds_sn, bounds_ss, slice_str, map_ite, ex_ite, lenD, mkFr_env, mkFr_defs, leL_nil, leL_cons, List.replicate_succ, List.replicate_zero, List.forall_mem_cons, List.not_mem_nil, Nat.zero_lt_succ, Nat.lt_add_one, enc_all, enc_dec, enc_append, enc_take, enc_drop, len_encB, AHeap.set_set, Int.toNat_natCast, lookupD, loadD, partD, storeD, cellsD, cellOk, setAt, plain_undef, frz_undef, plain_bool, frz_bool, plain_int, frz_int, plain_float, frz_float, plain_str, frz_str, plain_nilptr, frz_nilptr, plain_ptr, frz_ptr, plain_eptr, frz_eptr, plain_rptr, frz_rptr, plain_sl, frz_sl, plain_csl, frz_csl, plain_tuple, frz_tuple, plain_func, frz_func, plain_nilfunc, frz_nilfunc, plain_iface, frz_iface, plain_nilif, frz_nilif, plain_map, frz_map, plain_nilmap, frz_nilmap, plC_undef, plC_bool, plC_int, plC_float, plC_str, plC_nilptr, plC_ptr, plC_eptr, plC_rptr, plC_sl, plC_csl, plC_tuple, plC_func, plC_nilfunc, plC_iface, plC_nilif, plC_map, plC_nilmap, plain_nilsl, frz_nilsl, plain_row, plR_row, frz_row, frzR_row, frzL_nil, frzL_cons, plain_agg', plC_nilsl, plC_row, frza_nil, frza_row, frza_undef, frza_bool, frza_int, frza_float, frza_str, frza_nilptr, frza_ptr, frza_eptr, frza_rptr, frza_nilsl, frza_sl, frza_csl, frza_func, frza_nilfunc, frza_iface, frza_nilif, frza_map, frza_nilmap, objNe, objSame, eqEv, readEv, buildD, buildRows, rowsOf, elemsOf, AHeap.set_f, AHeap.emp_f, Option.map_some, Option.map_none, Option.some.injEq, exists_eq_left', exists_eq_left, true_and, and_true, List.map_cons, List.map_nil, List.append_nil, List.nil_append, List.cons_append, List.foldl_cons, List.foldl_nil, List.all_cons, List.all_nil, Bool.and_true, Bool.and_self, Bool.true_and, List.length_cons, List.length_nil, List.getElem?_cons_zero, List.getElem?_cons_succ, List.set_cons_zero, List.set_cons_succ, forall_const, reduceCtorEq, false_implies, implies_true, true_implies, Bool.not_true, Bool.not_false, decide_eq_true_eq, decide_eq_false_iff_not, Bool.true_eq_false, Bool.false_eq_true, AOut.ret.injEq, Nat.zero_add, Nat.add_zero, Nat.reduceAdd, beq_self_eq_true, bne_self_eq_false, cond_true, cond_false, List.drop_zero, Nat.sub_zero, D.int.injEq, D.str.injEq, D.bool.injEq, D.tuple.injEq, D.agg.injEq, D.sl.injEq, List.cons.injEq, or_true, true_or, or_false, false_or, and_self, not_true_eq_false, not_false_eq_true, ne_eq]
  intro id hl
  have hlen := len_leB s.length 4
  refine ⟨by omega, by omega, fun id1 _ _ => ⟨by omega, by simp, .inl ?_⟩⟩
  rw [List.take_of_length_le (by simp)]
  rfl
end Go.Proofs.Ytaimobfakcompaa.Zz
