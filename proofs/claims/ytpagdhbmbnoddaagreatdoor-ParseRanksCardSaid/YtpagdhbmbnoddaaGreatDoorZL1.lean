/- Contracts of Go's library that the kit proved over worlds, as contracts of plain data. -/
import Derived.Test.YtpagdhbmbnoddaaGreatDoorZX
import Derived.Below
import Derived.Sort.Row
import Derived.Sort.Grow
import Derived.Deep.Draws
import Derived.Lib.LaidTab
import Derived.Lib.Join
import Derived.Test.YtpagdhbmbnoddaaGreatDoorProg
import Derived.KernelRfl
set_option linter.unnecessarySimpa false
set_option linter.unusedVariables false
set_option linter.unusedSimpArgs false
namespace Go.Proofs.YtpagdhbmbnoddaaGreatDoor.Zz
open Go.RowKit

theorem PCall.of_below [Globs] {P : Program} {f : FuncId} {args : List D} {d : D} (hc : callable P f = true)
    (h : ∀ (κ : Kap) (w : World) (vs : Array Value), GlobRep κ w → RepL κ w vs.toList args → (∀ b, κ.imm b → b < w.heap.size) →
      Calls P f vs w fun e w' => ∃ v, e = .returned v ∧ (∀ (κ' : Kap) (w'' : World), Rep κ' w'' v d) ∧ Below w.heap.size w w') : PCall P f args d := by
  refine ⟨hc, fun κ w vs hi hr => (h κ w vs hi.glob hr hi.immLt).mono fun e w' ⟨v, e1, r, b⟩ => ?_⟩
  subst e1
  have le : Le κ w κ w' := ⟨fun x hx => ⟨hx, b.block x (hi.immLt x hx)⟩, (Le.refl κ w).loc⟩
  refine ⟨.ret d, .emp, κ, rfl, .ret (r _ _), ⟨fun x hx => Nat.lt_of_lt_of_le (hi.immLt x hx) b.size, fun i p hp => Nat.lt_of_lt_of_le (hi.locLt i p hp) b.size, hi.fresh, fun i o ho => (by cases ho), fun i j oi oj pi pj ho => (by cases ho), hi.glob.mono le⟩, ?_⟩
  exact ⟨b.os, b.tape, b.output, b.size, fun x hx _ => b.block x hx, fun _ h => h, fun _ _ h => .inl h, le.loc, fun _ _ h _ => h, fun _ _ h => h, fun _ _ _ h => h⟩

theorem below_grow (w : World) (k : Nat) (os : Array Obj) : Below w.heap.size w (Go.Sort.grow (w.drewN k) os) := by
  refine ⟨rfl, rfl, rfl, ?_, fun i hi => ?_⟩
  · simp [Go.Sort.grow, World.drewN]
  · show (w.heap ++ os)[i]? = _
    rw [Array.getElem?_append_left hi]
theorem below_drewN (w : World) (k : Nat) : Below w.heap.size w (w.drewN k) := ⟨rfl, rfl, rfl, Nat.le_refl _, fun _ _ => rfl⟩

/-- A table of whole numbers that the code reads. -/
theorem tab_of [Globs] {P : Program} {κ : Kap} {w : World} {n : String} {g : Nat} {k : IntKind} {zs : List Int} (h : GlobRep κ w) (hg : P.globalNamed n = some g) (e : Globs.of g = some (zs.map fun z => .int k z)) : Lib.TabIs P w n k zs := by
  obtain ⟨_, cs, t, h1, h2, h3⟩ := h.of g _ e
  unfold Lib.TabIs World.var?
  rw [hg, Option.bind_some, h1]
  show some cs = _
  congr 1
  apply Array.ext'
  apply List.ext_getElem?
  intro j
  by_cases hj : j < zs.length
  · obtain ⟨v, h4, h5⟩ := h3 j (.int k zs[j]) (by simp [hj])
    cases h5
    simp [h4, hj]
  · have : cs.size = zs.length := by simpa using h2
    rw [List.getElem?_eq_none (by simp; omega), List.getElem?_eq_none (by simp; omega)]

/-- A string that reads as bytes. -/
theorem rep_str_inv {κ : Kap} {w : World} {v : Value} {s : List UInt8} (h : Rep κ w v (.str s)) : v = .string ⟨s.toArray⟩ ∧ s.length ≤ 9223372036854775807 := by
  cases h with
  | str _ h => exact ⟨rfl, h⟩
theorem rep_int_inv {κ : Kap} {w : World} {v : Value} {k : IntKind} {n : Int} (h : Rep κ w v (.int k n)) : v = .int k n := by cases h; rfl

/-- A slice of texts. -/
theorem rep_encS_inv {κ : Kap} {w : World} {v : Value} {l : List (List UInt8)} (h : Rep κ w v (.sl (encS l))) : (l = [] ∧ ∃ a c, v = .slice a 0 c) ∨
    ∃ b o cap, v = .slice (some ⟨b, o, none⟩) l.length cap ∧ l.length ≤ cap ∧ ∀ (j : Nat) (s : List UInt8), l[j]? = some s → κ.imm b ∧ w.cell? ⟨b, o + j, none⟩ = some (.string ⟨s.toArray⟩) := by
  generalize hx : encS l = xs at h
  cases h with
  | slnil hb =>
    left
    refine ⟨?_, _, _, rfl⟩
    simpa [encS] using hx
  | sl f hn hcap hsz hc hr =>
    subst hx
    have hl : (encS l).length = l.length := len_encS
    by_cases h0 : l = []
    · left
      subst h0
      exact ⟨rfl, _, _, rfl⟩
    right
    rename_i b o sz cap
    have hsz1 : sz = 1 := by
      cases l with
      | nil => exact absurd rfl h0
      | cons s l => exact (hsz [.str s] (by simp [encS])).symm
    subst hsz1
    refine ⟨b, o, cap, by rw [hl], by omega, fun j s hj => ?_⟩
    have e1 : (encS l)[j]? = some [.str s] := by rw [encS_get, hj]; rfl
    obtain ⟨h1, h2⟩ := hc j [.str s] 0 (.str s) e1 rfl
    have h3 := hr j [.str s] 0 (.str s) e1 rfl
    rw [(rep_str_inv h3).1] at h2
    exact ⟨h1, by simpa using h2⟩

/-! ### Bytes in an array of the call's own -/
def encC (l : List UInt8) : List D := l.map fun b => .int .u8 b.toNat
theorem encC_set {l : List UInt8} {i : Nat} {b : UInt8} : (encC l).set i (.int .u8 b.toNat) = encC (l.set i b) := by simp [encC, List.map_set]
theorem len_encC {l : List UInt8} : (encC l).length = l.length := by simp [encC]
theorem i_str_cslAt {T : Tab} {h : AHeap} {K E : D → AHeap → Prop} {id off n : Nat} {l : List UInt8} (e : h.f id = some (.cells (encC l))) (hn : off + n ≤ l.length) : vcI T (.conv .bytesStr (.csl id off n)) h K E = K (.str ((l.drop off).take n)) h := by
  rw [i_bytesStr]
  have e1 : (((encC l).drop off).take n).map (fun d => [d]) = encB ((l.drop off).take n) := by simp only [encC, encB, List.map_drop, List.map_take, List.map_map]; rfl
  have e2 : readEv h (.conv .bytesStr (.csl id off n)) = some (.str ((l.drop off).take n)) := by
    simp only [readEv, elemsOf, e, len_encC, hn, if_true, e1, enc_all, enc_dec]
  rw [e2, ask_some]
theorem i_str_cslC {T : Tab} {h : AHeap} {K E : D → AHeap → Prop} {id n : Nat} {l : List UInt8} (e : h.f id = some (.cells (encC l))) (hn : l.length = n) : vcI T (.conv .bytesStr (.csl id 0 n)) h K E = K (.str l) h := by
  rw [i_str_cslAt e (by omega), List.drop_zero, List.take_of_length_le (by omega)]

/-- A call that writes bytes into a part of an array of ours. -/
theorem ACalls.of_bytes [Globs] {P : Program} {f : FuncId} {h : AHeap} {id off n : Nat} {l : List UInt8} {args : List D} (hc : callable P f = true) (hid : h.f id = some (.cells (encC l))) (hn : off + n ≤ l.length) (h0 : 0 < n) {Q : List UInt8 → Prop}
    (hk : ∀ (κ : Kap) (w : World) (vs : List Value) (blk cap : Nat), GlobRep κ w → RepL κ w vs args → Go.Sort.Holds (fun b : UInt8 => Value.int .u8 (b.toNat : Int)) w blk off ((l.drop off).take n).toArray →
      Calls P f (.slice (some ⟨blk, off, none⟩) n cap :: vs).toArray w fun e w' => e = .returned (.tuple #[]) ∧ ∃ (N : Nat) (dk : Array UInt8), w' = (Go.Sort.putRow (fun b : UInt8 => Value.int .u8 (b.toNat : Int)) w blk off dk).drewN N ∧ dk.size = n ∧ Q dk.toList) :
    ACalls P f (.csl id off n :: args) h fun o h' => o = .ret (.tuple []) ∧ ∃ r, Q r ∧ r.length = n ∧ h' = h.set id (.cells (encC (l.take off ++ r ++ l.drop (off + n)))) := by
  refine ⟨hc, fun κ w vs hi hr => ?_⟩
  obtain ⟨vl⟩ := vs
  cases hr with
  | cons h1 h2 =>
    rename_i v vs
    cases h1 with
    | csl hl hv hn' hcap ha =>
      rename_i cap p a
      obtain ⟨p', hp', ho⟩ := hi.obj id _ hid
      rw [hl] at hp'
      cases hp'
      obtain ⟨o1, o2, o3, cs, t, o4, o5, o6⟩ := ho
      have hcl : cs.size = l.length := by rw [o5, len_encC]
      have at_ : ∀ (i : Nat) (b : UInt8), l[i]? = some b → cs[i]? = some (Value.int .u8 (b.toNat : Int)) := fun i b hb => by
        obtain ⟨v, e1, e2⟩ := o6 i (D.int .u8 (b.toNat : Int)) (by simp [encC, hb])
        rw [rep_int_inv e2] at e1
        exact e1
      rcases ha o1 with hz | hz
      · omega
      rw [o2, Nat.zero_add] at hz
      subst hz
      have hold : Go.Sort.Holds (fun b : UInt8 => Value.int .u8 (b.toNat : Int)) w p.blk off ((l.drop off).take n).toArray := by
        intro j hj
        have hj' : j < n := by simp at hj; omega
        have e1 : ((l.drop off).take n).toArray[j]! = l[off + j]'(by omega) := by
          rw [getElem!_pos _ j hj]
          simp
        refine ⟨?_, ?_⟩
        · rw [e1]
          have := at_ (off + j) (l[off + j]'(by omega)) (List.getElem?_eq_getElem _)
          simp only [World.cell?, o4]
          exact this
        · simp [World.frozen?, o4]
      refine (hk κ w vs p.blk cap hi.glob h2 hold).mono fun e w' ⟨e1, N, dk, e2, e3, e4⟩ => ?_
      subst e1 e2
      have hput : Go.Sort.putRow (fun b : UInt8 => Value.int .u8 (b.toNat : Int)) w p.blk off dk = w.setRow p.blk (Go.Sort.putCells (fun b : UInt8 => Value.int .u8 (b.toNat : Int)) off dk cs) := by
        unfold Go.Sort.putRow
        rw [Go.Sort.mapBlock_congr w p.blk _ (fun _ => Go.Sort.putCells (fun b : UInt8 => Value.int .u8 (b.toNat : Int)) off dk cs) (fun c e fr hh => by rw [o4] at hh; cases hh; rfl)]
        unfold Go.Sort.mapBlock World.setRow
        congr 1
      have own : Owned κ h p.blk := ⟨id, _, p, hid, rfl, hl, rfl⟩
      have hll : (l.take off ++ dk.toList ++ l.drop (off + n)).length = l.length := by simp; omega
      have key := write_obj hi (o' := .cells (encC (l.take off ++ dk.toList ++ l.drop (off + n)))) hid hl rfl rfl (Go.Sort.putCells (fun b : UInt8 => Value.int .u8 (b.toNat : Int)) off dk cs) (by
        refine ⟨o1, o2, o3, Go.Sort.putCells (fun b : UInt8 => Value.int .u8 (b.toNat : Int)) off dk cs, t, ?_, ?_, ?_⟩
        · simp [World.setRow, Array.getElem?_modify, o4]
        · simp only [Go.Sort.putCells, Array.size_mapIdx, hcl, len_encC, hll]
        · intro i d hd
          obtain ⟨b, hb, rfl⟩ : ∃ b, (l.take off ++ dk.toList ++ l.drop (off + n))[i]? = some b ∧ d = .int .u8 (b.toNat : Int) := by
            simp only [encC, List.getElem?_map, Option.map_eq_some_iff] at hd
            obtain ⟨b, h1, h2⟩ := hd
            exact ⟨b, h1, h2.symm⟩
          refine ⟨.int .u8 (b.toNat : Int), ?_, .int _ _⟩
          have hi2 : i < l.length := by have := (List.getElem?_eq_some_iff.1 hb).1; omega
          have hl1 : (l.take off).length = off := by simp; omega
          have hci : i < cs.size := by omega
          simp only [Go.Sort.putCells, Array.getElem?_mapIdx, Array.getElem?_eq_getElem hci, Option.map_some, Option.some.injEq]
          by_cases c1 : i < off
          · rw [if_neg (by omega)]
            rw [List.append_assoc, List.getElem?_append_left (by omega), List.getElem?_take, if_pos c1] at hb
            have := at_ i b hb
            rw [Array.getElem?_eq_getElem hci] at this
            exact Option.some.inj this
          · by_cases c2 : i < off + n
            · rw [if_pos (by omega)]
              rw [List.getElem?_append_left (by simp; omega), List.getElem?_append_right (by omega), hl1] at hb
              have : dk[i - off]! = b := by
                rw [getElem!_pos _ (i - off) (by omega)]
                simpa [Array.getElem?_eq_getElem (show i - off < dk.size by omega)] using hb
              rw [this]
            · rw [if_neg (by omega)]
              rw [List.getElem?_append_right (by simp; omega)] at hb
              have e9 : off + n + (i - (l.take off ++ dk.toList).length) = i := by simp; omega
              rw [List.getElem?_drop, e9] at hb
              have := at_ i b hb
              rw [Array.getElem?_eq_getElem hci] at this
              exact Option.some.inj this)
      rw [hput]
      obtain ⟨k1, k2⟩ := key
      refine ⟨.ret (.tuple []), _, κ, ⟨rfl, dk.toList, e4, by simpa using e3, rfl⟩, .ret (.tuple rfl fun i d hd => by simp at hd), k1.of_heap rfl, k2.trans (Ev.of_heap rfl rfl rfl rfl)⟩
end Go.Proofs.YtpagdhbmbnoddaaGreatDoor.Zz
/- The laws that run code, in bundles (simp takes a conjunction apart). -/
set_option linter.unusedVariables false
namespace Go.Proofs.YtpagdhbmbnoddaaGreatDoor.Zz
theorem zz : type_of% (And.intro (And.intro (And.intro (And.intro (And.intro (And.intro (And.intro (And.intro @Int.cast_ofNat_Int @Int.toNat_zero) (And.intro @forall_eq'.{1} @run_skip)) (And.intro (And.intro @run_exit @run_ret) (And.intro @run_seq @run_block))) (And.intro (And.intro (And.intro @run_cond @todo_stm) (And.intro @todo_stm_ret @todo_stm_exit)) (And.intro (And.intro @todo_blk @todo_blk_ret) (And.intro @todo_blk_exit (And.intro @todo_lp @todo_lp_ret))))) (And.intro (And.intro (And.intro (And.intro @todo_lp_exit @todo_nil) (And.intro @vcOps_nil @vc_ops)) (And.intro (And.intro @kont_app @ask_some) (And.intro @ask_none (And.intro @ask_ite @ask_ite_none)))) (And.intro (And.intro (And.intro @askH_some @askH_none) (And.intro @askH_ite @op_p)) (And.intro (And.intro @op_n @op_g) (And.intro @guard_no (And.intro @i_alloc @i_box)))))) (And.intro (And.intro (And.intro (And.intro (And.intro @i_bs @i_load) (And.intro @i_loadOf @i_callA)) (And.intro (And.intro @i_store @i_storeNe) (And.intro @fresh_ite (And.intro @encB_nil @and_imp)))) (And.intro (And.intro (And.intro @i_str_row @strRow_enc) (And.intro @i_str_sl @i_str_nil)) (And.intro (And.intro @i_str_one @i_slice_row) (And.intro @i_slice_str (And.intro @i_slice_sl @i_slice_ptr))))) (And.intro (And.intro (And.intro (And.intro @i_index_row @i_index_any) (And.intro @askE_enc @i_index_csl)) (And.intro (And.intro @i_len_str @i_len_arr) (And.intro @i_len_nil (And.intro @i_len_sl @i_len_row)))) (And.intro (And.intro (And.intro @i_len_csl @i_makeSlice) (And.intro @i_call @i_qcall)) (And.intro (And.intro @i_panic @i_append) (And.intro @srcOf_str (And.intro @srcOf_sl @app_nil))))))) (And.intro (And.intro (And.intro (And.intro (And.intro (And.intro @app_row @appR_row) (And.intro @enc_cells @v_mov)) (And.intro (And.intro @v_pick @v_build) (And.intro @v_bs (And.intro @v_nc_ptr @v_nc_eptr)))) (And.intro (And.intro (And.intro @v_nc_rptr @v_nc_func) (And.intro @v_bin @v_eql)) (And.intro (And.intro @v_un @v_intInt) (And.intro @v_intFloat (And.intro @v_same @v_strBytes))))) (And.intro (And.intro (And.intro (And.intro @v_slice @v_fa_ptr) (And.intro @v_fa_eptr @v_fa_rptr)) (And.intro (And.intro @v_field @v_ia_ptr) (And.intro @v_ia_eptr (And.intro @v_ia_rptr @v_indexA)))) (And.intro (And.intro (And.intro @v_indexS @v_is_enc) (And.intro @v_is_csl @v_extract)) (And.intro (And.intro @v_mkIface @v_mkFunc) (And.intro @v_max (And.intro @v_min @v_len0)))))) (And.intro (And.intro (And.intro (And.intro (And.intro @Fr.put_some @Fr.put_none) (And.intro @Fr.put_defs @retP_iff)) (And.intro (And.intro @retN_iff @retS_ret) (And.intro @retS_normal (And.intro @retF_ret @retF_normal)))) (And.intro (And.intro (And.intro @bounds_nn @bounds_ns) (And.intro @bounds_sn @bounds_ss)) (And.intro (And.intro @slice_str @map_ite) (And.intro @ex_ite (And.intro @mkFr_env @mkFr_defs))))) (And.intro (And.intro (And.intro (And.intro @leL_nil @leL_cons) (And.intro @List.replicate_succ.{0} @List.replicate_zero.{0})) (And.intro (And.intro @List.forall_mem_cons.{0} @List.not_mem_nil.{0}) (And.intro @Nat.zero_lt_succ (And.intro @Nat.lt_add_one @enc_all)))) (And.intro (And.intro (And.intro @enc_dec @enc_append) (And.intro @enc_take @enc_drop)) (And.intro (And.intro @len_encB @AHeap.set_set) (And.intro @Int.toNat_natCast (And.intro @plain_undef @frz_undef)))))))) (And.intro (And.intro (And.intro (And.intro (And.intro (And.intro (And.intro @plain_bool @frz_bool) (And.intro @plain_int @frz_int)) (And.intro (And.intro @plain_float @frz_float) (And.intro @plain_str (And.intro @frz_str @plain_nilptr)))) (And.intro (And.intro (And.intro @frz_nilptr @plain_ptr) (And.intro @frz_ptr @plain_eptr)) (And.intro (And.intro @frz_eptr @plain_rptr) (And.intro @frz_rptr (And.intro @plain_sl @frz_sl))))) (And.intro (And.intro (And.intro (And.intro @plain_csl @frz_csl) (And.intro @plain_tuple @frz_tuple)) (And.intro (And.intro @plain_func @frz_func) (And.intro @plain_nilfunc (And.intro @frz_nilfunc @plain_iface)))) (And.intro (And.intro (And.intro @frz_iface @plain_nilif) (And.intro @frz_nilif @plain_map)) (And.intro (And.intro @frz_map @plain_nilmap) (And.intro @frz_nilmap (And.intro @plC_undef @plC_bool)))))) (And.intro (And.intro (And.intro (And.intro (And.intro @plC_int @plC_float) (And.intro @plC_str @plC_nilptr)) (And.intro (And.intro @plC_ptr @plC_eptr) (And.intro @plC_rptr (And.intro @plC_sl @plC_csl)))) (And.intro (And.intro (And.intro @plC_tuple @plC_func) (And.intro @plC_nilfunc @plC_iface)) (And.intro (And.intro @plC_nilif @plC_map) (And.intro @plC_nilmap (And.intro @plain_nilsl @frz_nilsl))))) (And.intro (And.intro (And.intro (And.intro @plain_row @plR_row) (And.intro @frz_row @frzR_row)) (And.intro (And.intro @frzL_nil @frzL_cons) (And.intro @plain_agg' (And.intro @plC_nilsl @plC_row)))) (And.intro (And.intro (And.intro @frza_nil @frza_row) (And.intro @frza_undef @frza_bool)) (And.intro (And.intro @frza_int @frza_float) (And.intro @frza_str (And.intro @frza_nilptr @frza_ptr))))))) (And.intro (And.intro (And.intro (And.intro (And.intro (And.intro @frza_eptr @frza_rptr) (And.intro @frza_nilsl @frza_sl)) (And.intro (And.intro @frza_csl @frza_func) (And.intro @frza_nilfunc (And.intro @frza_iface @frza_nilif)))) (And.intro (And.intro (And.intro @frza_map @frza_nilmap) (And.intro @AHeap.set_f @AHeap.emp_f)) (And.intro (And.intro @Option.map_some.{0,0} @Option.map_none.{0,0}) (And.intro @Option.some.injEq.{0} (And.intro @exists_eq_left'.{1} @exists_eq_left.{1}))))) (And.intro (And.intro (And.intro (And.intro @true_and @and_true) (And.intro @List.map_cons.{0,0} @List.map_nil.{0,0})) (And.intro (And.intro @List.append_nil.{0} @List.nil_append.{0}) (And.intro @List.cons_append.{0} (And.intro @List.foldl_cons.{0,0} @List.foldl_nil.{0,0})))) (And.intro (And.intro (And.intro @List.all_cons.{0} @List.all_nil.{0}) (And.intro @Bool.and_true @Bool.and_self)) (And.intro (And.intro @Bool.true_and @List.length_cons.{0}) (And.intro @List.length_nil.{0} (And.intro @List.getElem?_cons_zero.{0} @List.getElem?_cons_succ.{0})))))) (And.intro (And.intro (And.intro (And.intro (And.intro @List.set_cons_zero.{0} @List.set_cons_succ.{0}) (And.intro (And.intro @forall_const.{0} @forall_const.{1}) @false_implies)) (And.intro (And.intro (And.intro @implies_true.{0} @implies_true.{1}) @true_implies) (And.intro @Bool.not_true (And.intro @Bool.not_false @decide_eq_true_eq)))) (And.intro (And.intro (And.intro @decide_eq_false_iff_not @Bool.true_eq_false) (And.intro @Bool.false_eq_true @AOut.ret.injEq)) (And.intro (And.intro @Nat.zero_add @Nat.add_zero) (And.intro @beq_self_eq_true.{0} (And.intro @bne_self_eq_false.{0} @cond_true.{1}))))) (And.intro (And.intro (And.intro (And.intro @cond_false.{1} @List.drop_zero.{0}) (And.intro @Nat.sub_zero @D.int.injEq)) (And.intro (And.intro @D.str.injEq @D.bool.injEq) (And.intro @D.tuple.injEq (And.intro @D.agg.injEq @D.sl.injEq)))) (And.intro (And.intro (And.intro @List.cons.injEq.{0} @or_true) (And.intro @true_or @or_false)) (And.intro (And.intro @false_or @and_self) (And.intro @not_true_eq_false (And.intro @not_false_eq_true @ne_eq.{1}))))))))) := (And.intro (And.intro (And.intro (And.intro (And.intro (And.intro (And.intro (And.intro @Int.cast_ofNat_Int @Int.toNat_zero) (And.intro @forall_eq'.{1} @run_skip)) (And.intro (And.intro @run_exit @run_ret) (And.intro @run_seq @run_block))) (And.intro (And.intro (And.intro @run_cond @todo_stm) (And.intro @todo_stm_ret @todo_stm_exit)) (And.intro (And.intro @todo_blk @todo_blk_ret) (And.intro @todo_blk_exit (And.intro @todo_lp @todo_lp_ret))))) (And.intro (And.intro (And.intro (And.intro @todo_lp_exit @todo_nil) (And.intro @vcOps_nil @vc_ops)) (And.intro (And.intro @kont_app @ask_some) (And.intro @ask_none (And.intro @ask_ite @ask_ite_none)))) (And.intro (And.intro (And.intro @askH_some @askH_none) (And.intro @askH_ite @op_p)) (And.intro (And.intro @op_n @op_g) (And.intro @guard_no (And.intro @i_alloc @i_box)))))) (And.intro (And.intro (And.intro (And.intro (And.intro @i_bs @i_load) (And.intro @i_loadOf @i_callA)) (And.intro (And.intro @i_store @i_storeNe) (And.intro @fresh_ite (And.intro @encB_nil @and_imp)))) (And.intro (And.intro (And.intro @i_str_row @strRow_enc) (And.intro @i_str_sl @i_str_nil)) (And.intro (And.intro @i_str_one @i_slice_row) (And.intro @i_slice_str (And.intro @i_slice_sl @i_slice_ptr))))) (And.intro (And.intro (And.intro (And.intro @i_index_row @i_index_any) (And.intro @askE_enc @i_index_csl)) (And.intro (And.intro @i_len_str @i_len_arr) (And.intro @i_len_nil (And.intro @i_len_sl @i_len_row)))) (And.intro (And.intro (And.intro @i_len_csl @i_makeSlice) (And.intro @i_call @i_qcall)) (And.intro (And.intro @i_panic @i_append) (And.intro @srcOf_str (And.intro @srcOf_sl @app_nil))))))) (And.intro (And.intro (And.intro (And.intro (And.intro (And.intro @app_row @appR_row) (And.intro @enc_cells @v_mov)) (And.intro (And.intro @v_pick @v_build) (And.intro @v_bs (And.intro @v_nc_ptr @v_nc_eptr)))) (And.intro (And.intro (And.intro @v_nc_rptr @v_nc_func) (And.intro @v_bin @v_eql)) (And.intro (And.intro @v_un @v_intInt) (And.intro @v_intFloat (And.intro @v_same @v_strBytes))))) (And.intro (And.intro (And.intro (And.intro @v_slice @v_fa_ptr) (And.intro @v_fa_eptr @v_fa_rptr)) (And.intro (And.intro @v_field @v_ia_ptr) (And.intro @v_ia_eptr (And.intro @v_ia_rptr @v_indexA)))) (And.intro (And.intro (And.intro @v_indexS @v_is_enc) (And.intro @v_is_csl @v_extract)) (And.intro (And.intro @v_mkIface @v_mkFunc) (And.intro @v_max (And.intro @v_min @v_len0)))))) (And.intro (And.intro (And.intro (And.intro (And.intro @Fr.put_some @Fr.put_none) (And.intro @Fr.put_defs @retP_iff)) (And.intro (And.intro @retN_iff @retS_ret) (And.intro @retS_normal (And.intro @retF_ret @retF_normal)))) (And.intro (And.intro (And.intro @bounds_nn @bounds_ns) (And.intro @bounds_sn @bounds_ss)) (And.intro (And.intro @slice_str @map_ite) (And.intro @ex_ite (And.intro @mkFr_env @mkFr_defs))))) (And.intro (And.intro (And.intro (And.intro @leL_nil @leL_cons) (And.intro @List.replicate_succ.{0} @List.replicate_zero.{0})) (And.intro (And.intro @List.forall_mem_cons.{0} @List.not_mem_nil.{0}) (And.intro @Nat.zero_lt_succ (And.intro @Nat.lt_add_one @enc_all)))) (And.intro (And.intro (And.intro @enc_dec @enc_append) (And.intro @enc_take @enc_drop)) (And.intro (And.intro @len_encB @AHeap.set_set) (And.intro @Int.toNat_natCast (And.intro @plain_undef @frz_undef)))))))) (And.intro (And.intro (And.intro (And.intro (And.intro (And.intro (And.intro @plain_bool @frz_bool) (And.intro @plain_int @frz_int)) (And.intro (And.intro @plain_float @frz_float) (And.intro @plain_str (And.intro @frz_str @plain_nilptr)))) (And.intro (And.intro (And.intro @frz_nilptr @plain_ptr) (And.intro @frz_ptr @plain_eptr)) (And.intro (And.intro @frz_eptr @plain_rptr) (And.intro @frz_rptr (And.intro @plain_sl @frz_sl))))) (And.intro (And.intro (And.intro (And.intro @plain_csl @frz_csl) (And.intro @plain_tuple @frz_tuple)) (And.intro (And.intro @plain_func @frz_func) (And.intro @plain_nilfunc (And.intro @frz_nilfunc @plain_iface)))) (And.intro (And.intro (And.intro @frz_iface @plain_nilif) (And.intro @frz_nilif @plain_map)) (And.intro (And.intro @frz_map @plain_nilmap) (And.intro @frz_nilmap (And.intro @plC_undef @plC_bool)))))) (And.intro (And.intro (And.intro (And.intro (And.intro @plC_int @plC_float) (And.intro @plC_str @plC_nilptr)) (And.intro (And.intro @plC_ptr @plC_eptr) (And.intro @plC_rptr (And.intro @plC_sl @plC_csl)))) (And.intro (And.intro (And.intro @plC_tuple @plC_func) (And.intro @plC_nilfunc @plC_iface)) (And.intro (And.intro @plC_nilif @plC_map) (And.intro @plC_nilmap (And.intro @plain_nilsl @frz_nilsl))))) (And.intro (And.intro (And.intro (And.intro @plain_row @plR_row) (And.intro @frz_row @frzR_row)) (And.intro (And.intro @frzL_nil @frzL_cons) (And.intro @plain_agg' (And.intro @plC_nilsl @plC_row)))) (And.intro (And.intro (And.intro @frza_nil @frza_row) (And.intro @frza_undef @frza_bool)) (And.intro (And.intro @frza_int @frza_float) (And.intro @frza_str (And.intro @frza_nilptr @frza_ptr))))))) (And.intro (And.intro (And.intro (And.intro (And.intro (And.intro @frza_eptr @frza_rptr) (And.intro @frza_nilsl @frza_sl)) (And.intro (And.intro @frza_csl @frza_func) (And.intro @frza_nilfunc (And.intro @frza_iface @frza_nilif)))) (And.intro (And.intro (And.intro @frza_map @frza_nilmap) (And.intro @AHeap.set_f @AHeap.emp_f)) (And.intro (And.intro @Option.map_some.{0,0} @Option.map_none.{0,0}) (And.intro @Option.some.injEq.{0} (And.intro @exists_eq_left'.{1} @exists_eq_left.{1}))))) (And.intro (And.intro (And.intro (And.intro @true_and @and_true) (And.intro @List.map_cons.{0,0} @List.map_nil.{0,0})) (And.intro (And.intro @List.append_nil.{0} @List.nil_append.{0}) (And.intro @List.cons_append.{0} (And.intro @List.foldl_cons.{0,0} @List.foldl_nil.{0,0})))) (And.intro (And.intro (And.intro @List.all_cons.{0} @List.all_nil.{0}) (And.intro @Bool.and_true @Bool.and_self)) (And.intro (And.intro @Bool.true_and @List.length_cons.{0}) (And.intro @List.length_nil.{0} (And.intro @List.getElem?_cons_zero.{0} @List.getElem?_cons_succ.{0})))))) (And.intro (And.intro (And.intro (And.intro (And.intro @List.set_cons_zero.{0} @List.set_cons_succ.{0}) (And.intro (And.intro @forall_const.{0} @forall_const.{1}) @false_implies)) (And.intro (And.intro (And.intro @implies_true.{0} @implies_true.{1}) @true_implies) (And.intro @Bool.not_true (And.intro @Bool.not_false @decide_eq_true_eq)))) (And.intro (And.intro (And.intro @decide_eq_false_iff_not @Bool.true_eq_false) (And.intro @Bool.false_eq_true @AOut.ret.injEq)) (And.intro (And.intro @Nat.zero_add @Nat.add_zero) (And.intro @beq_self_eq_true.{0} (And.intro @bne_self_eq_false.{0} @cond_true.{1}))))) (And.intro (And.intro (And.intro (And.intro @cond_false.{1} @List.drop_zero.{0}) (And.intro @Nat.sub_zero @D.int.injEq)) (And.intro (And.intro @D.str.injEq @D.bool.injEq) (And.intro @D.tuple.injEq (And.intro @D.agg.injEq @D.sl.injEq)))) (And.intro (And.intro (And.intro @List.cons.injEq.{0} @or_true) (And.intro @true_or @or_false)) (And.intro (And.intro @false_or @and_self) (And.intro @not_true_eq_false (And.intro @not_false_eq_true @ne_eq.{1})))))))))
theorem zzN : type_of% (And.intro @choose_b (And.intro @guard_bt @guard_bf)) := And.intro @choose_b (And.intro @guard_bt @guard_bf)
theorem zzO : type_of% (And.intro (And.intro @guard_tt (And.intro @guard_ff (And.intro @guard_tf (And.intro @guard_ft (And.intro @guard_t @guard_f))))) (And.intro @pickC_true (And.intro @pickC_false @pickC_bool))) := And.intro (And.intro @guard_tt (And.intro @guard_ff (And.intro @guard_tf (And.intro @guard_ft (And.intro @guard_t @guard_f))))) (And.intro @pickC_true (And.intro @pickC_false @pickC_bool))
theorem zzF : type_of% (And.intro @i_farith (And.intro (And.intro @fltK_some @fltK_none) (And.intro @v_floatInt @v_floatFloat))) := (And.intro @i_farith (And.intro (And.intro @fltK_some @fltK_none) (And.intro @v_floatInt @v_floatFloat)))
theorem zzD : type_of% (And.intro @vc_opsD (And.intro @run_defer (And.intro @putOff_func (And.intro @Fr.env_defs (And.intro @Fr.defs_defs (And.intro @leD_nil (And.intro @leD_cons (And.intro @mkFrD_env (And.intro @mkFrD_defs @Ed_panS))))))))) := And.intro @vc_opsD (And.intro @run_defer (And.intro @putOff_func (And.intro @Fr.env_defs (And.intro @Fr.defs_defs (And.intro @leD_nil (And.intro @leD_cons (And.intro @mkFrD_env (And.intro @mkFrD_defs @Ed_panS))))))))
theorem zzM : type_of% (And.intro (And.intro (And.intro (And.intro (And.intro (And.intro (And.intro @Ins.map.eq_1 (And.intro @Ins.map.eq_2 @Ins.map.eq_3)) (And.intro @Ins.map.eq_4 (And.intro @Ins.map.eq_5 @Ins.map.eq_6))) (And.intro (And.intro @Ins.map.eq_7 (And.intro @Ins.map.eq_8 @Ins.map.eq_9)) (And.intro @Ins.map.eq_10 (And.intro @Ins.map.eq_11 @Ins.map.eq_12)))) (And.intro (And.intro (And.intro @Ins.map.eq_13 (And.intro @Ins.map.eq_14 @Ins.map.eq_15)) (And.intro @Ins.map.eq_16 (And.intro @Ins.map.eq_17 @Ins.map.eq_18))) (And.intro (And.intro @Ins.map.eq_19 (And.intro @Ins.map.eq_20 @Ins.map.eq_21)) (And.intro (And.intro @Ins.map.eq_22 @Ins.map.eq_23) (And.intro @Ins.map.eq_24 @Ins.map.eq_25))))) (And.intro (And.intro (And.intro (And.intro @Ins.map.eq_26 (And.intro @Ins.map.eq_27 @Ins.map.eq_28)) (And.intro @Ins.map.eq_29 (And.intro @Ins.map.eq_30 @Ins.map.eq_31))) (And.intro (And.intro @Ins.map.eq_32 (And.intro @Ins.map.eq_33 @Ins.map.eq_34)) (And.intro (And.intro @Ins.map.eq_35 @Ins.map.eq_36) (And.intro @Ins.map.eq_37 @Ins.map.eq_38)))) (And.intro (And.intro (And.intro @Ins.map.eq_39 (And.intro @Ins.map.eq_40 @Ins.map.eq_41)) (And.intro @Ins.map.eq_42 (And.intro @Ins.map.eq_43 @Ins.map.eq_44))) (And.intro (And.intro @Ins.map.eq_45 (And.intro @Ins.map.eq_46 @Ins.map.eq_47)) (And.intro (And.intro @Fr.ev.eq_1 @Fr.ev.eq_2) (And.intro @Fr.ev.eq_3 @argFr.eq_1)))))) (And.intro (And.intro (And.intro (And.intro (And.intro @argE.eq_1 (And.intro @argE.eq_2 @binEv.eq_1)) (And.intro @binEv.eq_2 (And.intro @binEv.eq_3 @binEv.eq_4))) (And.intro (And.intro @binEv.eq_5 (And.intro @binEv.eq_6 @intEv.eq_1)) (And.intro (And.intro @intEv.eq_2 @intEv.eq_3) (And.intro @intEv.eq_4 @intEv.eq_5)))) (And.intro (And.intro (And.intro @intEv.eq_6 (And.intro @intEv.eq_7 @intEv.eq_8)) (And.intro @intEv.eq_9 (And.intro @intEv.eq_10 @intEv.eq_11))) (And.intro (And.intro @intEv.eq_12 (And.intro @intEv.eq_13 @intEv.eq_14)) (And.intro (And.intro @intEv.eq_15 @intEv.eq_16) (And.intro @shEv.eq_1 @shEv.eq_2))))) (And.intro (And.intro (And.intro (And.intro @shEv.eq_3 (And.intro @strEv.eq_1 @strEv.eq_2)) (And.intro @strEv.eq_3 (And.intro @strEv.eq_4 @strEv.eq_5))) (And.intro (And.intro @strEv.eq_6 (And.intro @strEv.eq_7 @strEv.eq_8)) (And.intro (And.intro @unEv.eq_1 @unEv.eq_2) (And.intro @unEv.eq_3 @unEv.eq_4)))) (And.intro (And.intro (And.intro @unEv.eq_5 (And.intro @unEv.eq_6 @unEv.eq_7)) (And.intro @unEv.eq_8 (And.intro @Fr.mark.eq_1 @Fr.mark.eq_2))) (And.intro (And.intro @evRes.eq_1 (And.intro @evRes.eq_2 @evRes.eq_3)) (And.intro (And.intro @tup.eq_1 @tup.eq_2) (And.intro @lenD.eq_1 @lenD.eq_2))))))) (And.intro (And.intro (And.intro (And.intro (And.intro (And.intro @lenD.eq_3 (And.intro @lenD.eq_4 @lenD.eq_5)) (And.intro @lenD.eq_6 (And.intro @lenD.eq_7 @lookupD.eq_1))) (And.intro (And.intro @lookupD.eq_2 (And.intro @loadD.eq_1 @loadD.eq_2)) (And.intro (And.intro @loadD.eq_3 @loadD.eq_4) (And.intro @partD.eq_1 @partD.eq_2)))) (And.intro (And.intro (And.intro @storeD.eq_1 (And.intro @storeD.eq_2 @storeD.eq_3)) (And.intro @cellsD.eq_1 (And.intro @cellsD.eq_2 @cellOk.eq_1))) (And.intro (And.intro @cellOk.eq_2 (And.intro @cellOk.eq_3 @cellOk.eq_4)) (And.intro (And.intro @setAt.eq_1 @setAt.eq_2) (And.intro @objNe.eq_1 @objNe.eq_2))))) (And.intro (And.intro (And.intro (And.intro @objNe.eq_3 (And.intro @objNe.eq_4 @objNe.eq_5)) (And.intro @objNe.eq_6 (And.intro @objSame.eq_1 @objSame.eq_2))) (And.intro (And.intro @objSame.eq_3 (And.intro @objSame.eq_4 @objSame.eq_5)) (And.intro (And.intro @eqEv.eq_1 @eqEv.eq_2) (And.intro @eqEv.eq_3 @eqEv.eq_4)))) (And.intro (And.intro (And.intro @eqEv.eq_5 (And.intro @eqEv.eq_6 @eqEv.eq_7)) (And.intro @eqEv.eq_8 (And.intro @eqEv.eq_9 @eqEv.eq_10))) (And.intro (And.intro @eqEv.eq_11 (And.intro @eqEv.eq_12 @readEv.eq_1)) (And.intro (And.intro @readEv.eq_2 @readEv.eq_3) (And.intro @readEv.eq_4 @readEv.eq_5)))))) (And.intro (And.intro (And.intro (And.intro (And.intro @readEv.eq_6 (And.intro @readEv.eq_7 @readEv.eq_8)) (And.intro @buildD.eq_1 (And.intro @buildD.eq_2 @buildRows.eq_1))) (And.intro (And.intro @buildRows.eq_2 (And.intro @rowsOf.eq_1 @elemsOf.eq_1)) (And.intro (And.intro @elemsOf.eq_2 @elemsOf.eq_3) (And.intro @elemsOf.eq_4 @elemsOf.eq_5)))) (And.intro (And.intro (And.intro @normX.eq_1 (And.intro @unnil.eq_1 @unnil.eq_2)) (And.intro @isNil.eq_1 (And.intro @isNil.eq_2 @fltEv.eq_1))) (And.intro (And.intro @fltEv.eq_2 (And.intro @fltEv.eq_3 @fltEv.eq_4)) (And.intro (And.intro @fltEv.eq_5 @fltEv.eq_6) (And.intro @fltEv.eq_7 @isArithF.eq_1))))) (And.intro (And.intro (And.intro (And.intro @isArithF.eq_2 (And.intro @isArithF.eq_3 @isArithF.eq_4)) (And.intro @isArithF.eq_5 (And.intro @keptAt.eq_1 @keptAt.eq_2))) (And.intro (And.intro @keptAt.eq_3 (And.intro @lent_bool @lent_int)) (And.intro (And.intro @lent_float @lent_str) (And.intro @lent_agg @lent_tuple)))) (And.intro (And.intro (And.intro @lent_sl (And.intro @lent_func @lent_iface)) (And.intro @lent_nilif (And.intro @lent_same @List.any_cons.{0}))) (And.intro (And.intro @List.any_nil.{0} (And.intro @List.map_cons.{0,0} @List.map_nil.{0,0})) (And.intro (And.intro @Bool.or_false @Bool.false_or) (And.intro @Bool.or_true @Bool.true_or)))))))) := And.intro (And.intro (And.intro (And.intro (And.intro (And.intro (And.intro @Ins.map.eq_1 (And.intro @Ins.map.eq_2 @Ins.map.eq_3)) (And.intro @Ins.map.eq_4 (And.intro @Ins.map.eq_5 @Ins.map.eq_6))) (And.intro (And.intro @Ins.map.eq_7 (And.intro @Ins.map.eq_8 @Ins.map.eq_9)) (And.intro @Ins.map.eq_10 (And.intro @Ins.map.eq_11 @Ins.map.eq_12)))) (And.intro (And.intro (And.intro @Ins.map.eq_13 (And.intro @Ins.map.eq_14 @Ins.map.eq_15)) (And.intro @Ins.map.eq_16 (And.intro @Ins.map.eq_17 @Ins.map.eq_18))) (And.intro (And.intro @Ins.map.eq_19 (And.intro @Ins.map.eq_20 @Ins.map.eq_21)) (And.intro (And.intro @Ins.map.eq_22 @Ins.map.eq_23) (And.intro @Ins.map.eq_24 @Ins.map.eq_25))))) (And.intro (And.intro (And.intro (And.intro @Ins.map.eq_26 (And.intro @Ins.map.eq_27 @Ins.map.eq_28)) (And.intro @Ins.map.eq_29 (And.intro @Ins.map.eq_30 @Ins.map.eq_31))) (And.intro (And.intro @Ins.map.eq_32 (And.intro @Ins.map.eq_33 @Ins.map.eq_34)) (And.intro (And.intro @Ins.map.eq_35 @Ins.map.eq_36) (And.intro @Ins.map.eq_37 @Ins.map.eq_38)))) (And.intro (And.intro (And.intro @Ins.map.eq_39 (And.intro @Ins.map.eq_40 @Ins.map.eq_41)) (And.intro @Ins.map.eq_42 (And.intro @Ins.map.eq_43 @Ins.map.eq_44))) (And.intro (And.intro @Ins.map.eq_45 (And.intro @Ins.map.eq_46 @Ins.map.eq_47)) (And.intro (And.intro @Fr.ev.eq_1 @Fr.ev.eq_2) (And.intro @Fr.ev.eq_3 @argFr.eq_1)))))) (And.intro (And.intro (And.intro (And.intro (And.intro @argE.eq_1 (And.intro @argE.eq_2 @binEv.eq_1)) (And.intro @binEv.eq_2 (And.intro @binEv.eq_3 @binEv.eq_4))) (And.intro (And.intro @binEv.eq_5 (And.intro @binEv.eq_6 @intEv.eq_1)) (And.intro (And.intro @intEv.eq_2 @intEv.eq_3) (And.intro @intEv.eq_4 @intEv.eq_5)))) (And.intro (And.intro (And.intro @intEv.eq_6 (And.intro @intEv.eq_7 @intEv.eq_8)) (And.intro @intEv.eq_9 (And.intro @intEv.eq_10 @intEv.eq_11))) (And.intro (And.intro @intEv.eq_12 (And.intro @intEv.eq_13 @intEv.eq_14)) (And.intro (And.intro @intEv.eq_15 @intEv.eq_16) (And.intro @shEv.eq_1 @shEv.eq_2))))) (And.intro (And.intro (And.intro (And.intro @shEv.eq_3 (And.intro @strEv.eq_1 @strEv.eq_2)) (And.intro @strEv.eq_3 (And.intro @strEv.eq_4 @strEv.eq_5))) (And.intro (And.intro @strEv.eq_6 (And.intro @strEv.eq_7 @strEv.eq_8)) (And.intro (And.intro @unEv.eq_1 @unEv.eq_2) (And.intro @unEv.eq_3 @unEv.eq_4)))) (And.intro (And.intro (And.intro @unEv.eq_5 (And.intro @unEv.eq_6 @unEv.eq_7)) (And.intro @unEv.eq_8 (And.intro @Fr.mark.eq_1 @Fr.mark.eq_2))) (And.intro (And.intro @evRes.eq_1 (And.intro @evRes.eq_2 @evRes.eq_3)) (And.intro (And.intro @tup.eq_1 @tup.eq_2) (And.intro @lenD.eq_1 @lenD.eq_2))))))) (And.intro (And.intro (And.intro (And.intro (And.intro (And.intro @lenD.eq_3 (And.intro @lenD.eq_4 @lenD.eq_5)) (And.intro @lenD.eq_6 (And.intro @lenD.eq_7 @lookupD.eq_1))) (And.intro (And.intro @lookupD.eq_2 (And.intro @loadD.eq_1 @loadD.eq_2)) (And.intro (And.intro @loadD.eq_3 @loadD.eq_4) (And.intro @partD.eq_1 @partD.eq_2)))) (And.intro (And.intro (And.intro @storeD.eq_1 (And.intro @storeD.eq_2 @storeD.eq_3)) (And.intro @cellsD.eq_1 (And.intro @cellsD.eq_2 @cellOk.eq_1))) (And.intro (And.intro @cellOk.eq_2 (And.intro @cellOk.eq_3 @cellOk.eq_4)) (And.intro (And.intro @setAt.eq_1 @setAt.eq_2) (And.intro @objNe.eq_1 @objNe.eq_2))))) (And.intro (And.intro (And.intro (And.intro @objNe.eq_3 (And.intro @objNe.eq_4 @objNe.eq_5)) (And.intro @objNe.eq_6 (And.intro @objSame.eq_1 @objSame.eq_2))) (And.intro (And.intro @objSame.eq_3 (And.intro @objSame.eq_4 @objSame.eq_5)) (And.intro (And.intro @eqEv.eq_1 @eqEv.eq_2) (And.intro @eqEv.eq_3 @eqEv.eq_4)))) (And.intro (And.intro (And.intro @eqEv.eq_5 (And.intro @eqEv.eq_6 @eqEv.eq_7)) (And.intro @eqEv.eq_8 (And.intro @eqEv.eq_9 @eqEv.eq_10))) (And.intro (And.intro @eqEv.eq_11 (And.intro @eqEv.eq_12 @readEv.eq_1)) (And.intro (And.intro @readEv.eq_2 @readEv.eq_3) (And.intro @readEv.eq_4 @readEv.eq_5)))))) (And.intro (And.intro (And.intro (And.intro (And.intro @readEv.eq_6 (And.intro @readEv.eq_7 @readEv.eq_8)) (And.intro @buildD.eq_1 (And.intro @buildD.eq_2 @buildRows.eq_1))) (And.intro (And.intro @buildRows.eq_2 (And.intro @rowsOf.eq_1 @elemsOf.eq_1)) (And.intro (And.intro @elemsOf.eq_2 @elemsOf.eq_3) (And.intro @elemsOf.eq_4 @elemsOf.eq_5)))) (And.intro (And.intro (And.intro @normX.eq_1 (And.intro @unnil.eq_1 @unnil.eq_2)) (And.intro @isNil.eq_1 (And.intro @isNil.eq_2 @fltEv.eq_1))) (And.intro (And.intro @fltEv.eq_2 (And.intro @fltEv.eq_3 @fltEv.eq_4)) (And.intro (And.intro @fltEv.eq_5 @fltEv.eq_6) (And.intro @fltEv.eq_7 @isArithF.eq_1))))) (And.intro (And.intro (And.intro (And.intro @isArithF.eq_2 (And.intro @isArithF.eq_3 @isArithF.eq_4)) (And.intro @isArithF.eq_5 (And.intro @keptAt.eq_1 @keptAt.eq_2))) (And.intro (And.intro @keptAt.eq_3 (And.intro @lent_bool @lent_int)) (And.intro (And.intro @lent_float @lent_str) (And.intro @lent_agg @lent_tuple)))) (And.intro (And.intro (And.intro @lent_sl (And.intro @lent_func @lent_iface)) (And.intro @lent_nilif (And.intro @lent_same @List.any_cons.{0}))) (And.intro (And.intro @List.any_nil.{0} (And.intro @List.map_cons.{0,0} @List.map_nil.{0,0})) (And.intro (And.intro @Bool.or_false @Bool.false_or) (And.intro @Bool.or_true @Bool.true_or)))))))
theorem zzK : type_of% (And.intro (And.intro (And.intro (And.intro @zz @zzN) (And.intro @zzF @zzD)) (And.intro (And.intro @zzM @i_callNe) (And.intro @Int.natCast_nonneg @Nat.le_refl))) (And.intro (And.intro (And.intro @Int.le_refl @List.take_succ_cons.{0}) (And.intro @List.take_zero.{0} @decide_true)) (And.intro (And.intro @decide_false @Bool.and_false) (And.intro @Bool.false_and (And.intro @cond_true.{0} @cond_false.{0}))))) := And.intro (And.intro (And.intro (And.intro @zz @zzN) (And.intro @zzF @zzD)) (And.intro (And.intro @zzM @i_callNe) (And.intro @Int.natCast_nonneg @Nat.le_refl))) (And.intro (And.intro (And.intro @Int.le_refl @List.take_succ_cons.{0}) (And.intro @List.take_zero.{0} @decide_true)) (And.intro (And.intro @decide_false @Bool.and_false) (And.intro @Bool.false_and (And.intro @cond_true.{0} @cond_false.{0}))))
end Go.Proofs.YtpagdhbmbnoddaaGreatDoor.Zz
/- What the package-level variables hold that the code reads. -/
namespace Go.Proofs.YtpagdhbmbnoddaaGreatDoor.Zz
-- GLOB internal/strconv.uint64pow10 1 u64 20
def zs1 : List Int := [1, 10, 100, 1000, 10000, 100000, 1000000, 10000000, 100000000, 1000000000, 10000000000, 100000000000, 1000000000000, 10000000000000, 100000000000000, 1000000000000000, 10000000000000000, 100000000000000000, 1000000000000000000, 10000000000000000000]
def gl1 : List D := zs1.map fun z => .int .u64 z
-- INTS internal/bytealg.MaxLen 2 i64
instance globs : Globs := ⟨fun g => if g = 1 then some gl1 else none, fun g => if g = 2 then some .i64 else none⟩
theorem globs_cases {g : Nat} {ds : List D} (e : Globs.of g = some ds) : (g = 1 ∧ ds = gl1) := by
  simp only [Globs.of] at e
  split at e
  · rename_i h; cases e; exact ⟨h, rfl⟩
  · cases e
theorem ints_cases {g : Nat} {k : IntKind} (e : Globs.ints g = some k) : (g = 2 ∧ k = .i64) := by
  simp only [Globs.ints] at e
  split at e
  · rename_i h; cases e; exact ⟨h, rfl⟩
  · cases e
end Go.Proofs.YtpagdhbmbnoddaaGreatDoor.Zz
/- The program, and what lies ahead of its contracts. -/
/- Contracts: lex: bytes, runs of bytes, prefixes. -/
namespace Go.Proofs.YtpagdhbmbnoddaaGreatDoor.Zz
set_option linter.unusedVariables false
set_option linter.unusedSimpArgs false
set_option maxRecDepth 20000
def p62 : Plan := ⟨⟨[], [], [], [], [], []⟩, [], [], false⟩
/-- cupel/lex.letter (1 parameters, 0 captured) -/
def s62 : Stm :=
 .seq (.ops [⟨.mov (.c (.bool false)), (some 2), none, true⟩])
 (.seq (.ops [⟨.mov (.t 0), (some 3), none, true⟩,
 ⟨.bin .geq (.t 3) (.c (.int .u8 97)), (some 4), none, true⟩,
 ⟨.mov (.t 4), (some 5), none, true⟩,
 ⟨.mov (.t 0), (some 6), (some (5, true)), true⟩,
 ⟨.bin .leq (.t 6) (.c (.int .u8 122)), (some 7), (some (5, true)), true⟩,
 ⟨.pick (.t 5) (.t 7) (.c (.bool false)), (some 8), none, true⟩,
 ⟨.mov (.t 8), (some 9), none, true⟩,
 ⟨.mov (.t 0), (some 10), (some (9, false)), true⟩,
 ⟨.bin .geq (.t 10) (.c (.int .u8 65)), (some 11), (some (9, false)), true⟩,
 ⟨.mov (.t 11), (some 12), (some (9, false)), true⟩,
 ⟨.mov (.t 0), (some 13), (some (12, true)), true⟩,
 ⟨.bin .leq (.t 13) (.c (.int .u8 90)), (some 14), (some (12, true)), true⟩,
 ⟨.pick (.t 12) (.t 14) (.c (.bool false)), (some 15), (some (9, false)), true⟩,
 ⟨.pick (.t 9) (.c (.bool true)) (.t 15), (some 16), none, true⟩,
 ⟨.mov (.t 16), (some 17), none, true⟩,
 ⟨.mov (.t 0), (some 18), (some (17, false)), true⟩,
 ⟨.bin .eql (.t 18) (.c (.int .u8 95)), (some 19), (some (17, false)), true⟩,
 ⟨.pick (.t 17) (.c (.bool true)) (.t 19), (some 20), none, true⟩,
 ⟨.mov (.t 20), (some 2), none, true⟩])
 (.ret))
theorem st62 : stmOf Tryz.prog 56 p62 = some (s62, [.tmp 2], 21) := by kernel_rfl

def p63 : Plan := ⟨⟨[], [], [], [], [], []⟩, [], [], false⟩
/-- cupel/lex.digit (1 parameters, 0 captured) -/
def s63 : Stm :=
 .seq (.ops [⟨.mov (.c (.bool false)), (some 2), none, true⟩])
 (.seq (.ops [⟨.mov (.t 0), (some 3), none, true⟩,
 ⟨.bin .geq (.t 3) (.c (.int .u8 48)), (some 4), none, true⟩,
 ⟨.mov (.t 4), (some 5), none, true⟩,
 ⟨.mov (.t 0), (some 6), (some (5, true)), true⟩,
 ⟨.bin .leq (.t 6) (.c (.int .u8 57)), (some 7), (some (5, true)), true⟩,
 ⟨.pick (.t 5) (.t 7) (.c (.bool false)), (some 8), none, true⟩,
 ⟨.mov (.t 8), (some 2), none, true⟩])
 (.ret))
theorem st63 : stmOf Tryz.prog 54 p63 = some (s63, [.tmp 2], 9) := by kernel_rfl

def p76 : Plan := ⟨⟨[], [], [], [], [], []⟩, [], [], false⟩
/-- cupel/lex.blank$1 (1 parameters, 0 captured) -/
def s76 : Stm :=
 .seq (.ops [⟨.mov (.c (.bool false)), (some 2), none, true⟩])
 (.seq (.ops [⟨.mov (.t 0), (some 3), none, true⟩,
 ⟨.bin .neq (.t 3) (.c (.int .u8 10)), (some 4), none, true⟩,
 ⟨.mov (.t 4), (some 2), none, true⟩])
 (.ret))
theorem st76 : stmOf Tryz.prog 53 p76 = some (s76, [.tmp 2], 5) := by kernel_rfl

def p78 : Plan := ⟨⟨[], [], [], [], [], []⟩, [], [], false⟩
/-- cupel/lex.one$1 (1 parameters, 0 captured) -/
def s78 : Stm :=
 .seq (.ops [⟨.mov (.c (.bool false)), (some 2), none, true⟩])
 (.seq (.ops [⟨.mov (.t 0), (some 3), none, true⟩,
 ⟨.qcall (.f 56) [(.t 3)], (some 4), none, false⟩,
 ⟨.mov (.t 4), (some 5), none, true⟩,
 ⟨.mov (.t 0), (some 6), (some (5, false)), true⟩,
 ⟨.qcall (.f 54) [(.t 6)], (some 7), (some (5, false)), false⟩,
 ⟨.pick (.t 5) (.c (.bool true)) (.t 7), (some 8), none, true⟩,
 ⟨.mov (.t 8), (some 2), none, true⟩])
 (.ret))
theorem st78 : stmOf Tryz.prog 57 p78 = some (s78, [.tmp 2], 9) := by kernel_rfl

def p75 : Plan := ⟨⟨[], [], [], [], [], []⟩, [], [], false⟩
/-- cupel/lex.run (3 parameters, 0 captured) -/
def s75 : Stm :=
 .seq (.ops [⟨.mov (.c (.int .i64 0)), (some 6), none, true⟩])
 (.seq (.ops [⟨.mov (.c (.int .i64 0)), (some 7), none, true⟩])
 (.seq (.block 0 (.loop (.seq (.seq (.ops [⟨.mov (.t 1), (some 8), none, true⟩,
 ⟨.mov (.t 7), (some 9), none, true⟩,
 ⟨.bin .add (.t 8) (.t 9), (some 10), none, true⟩,
 ⟨.mov (.t 0), (some 11), none, true⟩,
 ⟨.len .str (.t 11), (some 12), none, false⟩,
 ⟨.bin .lss (.t 10) (.t 12), (some 13), none, true⟩,
 ⟨.mov (.t 13), (some 14), none, true⟩,
 ⟨.mov (.t 2), (some 15), (some (14, true)), true⟩,
 ⟨.mov (.t 0), (some 16), (some (14, true)), true⟩,
 ⟨.mov (.t 1), (some 17), (some (14, true)), true⟩,
 ⟨.mov (.t 7), (some 18), (some (14, true)), true⟩,
 ⟨.bin .add (.t 17) (.t 18), (some 19), (some (14, true)), true⟩,
 ⟨.indexS (.t 16) (.t 19), (some 20), (some (14, true)), true⟩,
 ⟨.qcall (.t 15) [(.t 20)], (some 21), (some (14, true)), false⟩,
 ⟨.pick (.t 14) (.t 21) (.c (.bool false)), (some 22), none, true⟩])
 (.cond (.t 22)
 (.skip)
 (.exit 0)))
 (.block 1 (.ops [⟨.mov (.t 7), (some 23), none, true⟩,
 ⟨.bin .add (.t 23) (.c (.int .i64 1)), (some 24), none, true⟩,
 ⟨.mov (.t 24), (some 7), none, true⟩])))))
 (.seq (.ops [⟨.mov (.t 7), (some 25), none, true⟩,
 ⟨.mov (.t 25), (some 6), none, true⟩])
 (.ret))))
theorem st75 : stmOf Tryz.prog 52 p75 = some (s75, [.tmp 6], 26) := by kernel_rfl

def p84 : Plan := ⟨⟨[], [], [], [], [], []⟩, [], [], false⟩
/-- internal/stringslite.HasPrefix (2 parameters, 0 captured) -/
def s84 : Stm :=
 .seq (.ops [⟨.mov (.c (.bool false)), (some 4), none, true⟩])
 (.seq (.ops [⟨.mov (.t 0), (some 5), none, true⟩,
 ⟨.len .str (.t 5), (some 6), none, false⟩,
 ⟨.mov (.t 1), (some 7), none, true⟩,
 ⟨.len .str (.t 7), (some 8), none, false⟩,
 ⟨.bin .geq (.t 6) (.t 8), (some 9), none, true⟩,
 ⟨.mov (.t 9), (some 10), none, true⟩,
 ⟨.mov (.t 0), (some 11), (some (10, true)), true⟩,
 ⟨.mov (.t 1), (some 12), (some (10, true)), true⟩,
 ⟨.len .str (.t 12), (some 13), (some (10, true)), false⟩,
 ⟨.slice .str (.t 11) none (some (.t 13)) none, (some 14), (some (10, true)), false⟩,
 ⟨.mov (.t 1), (some 15), (some (10, true)), true⟩,
 ⟨.bin .eql (.t 14) (.t 15), (some 16), (some (10, true)), true⟩,
 ⟨.pick (.t 10) (.t 16) (.c (.bool false)), (some 17), none, true⟩,
 ⟨.mov (.t 17), (some 4), none, true⟩])
 (.ret))
theorem st84 : stmOf Tryz.prog 79 p84 = some (s84, [.tmp 4], 18) := by kernel_rfl

def p74 : Plan := ⟨⟨[], [], [], [], [], []⟩, [], [], false⟩
/-- strings.HasPrefix (2 parameters, 0 captured) -/
def s74 : Stm :=
 .seq (.ops [⟨.mov (.c (.bool false)), (some 4), none, true⟩])
 (.seq (.ops [⟨.mov (.t 0), (some 5), none, true⟩,
 ⟨.mov (.t 1), (some 6), none, true⟩,
 ⟨.qcall (.f 79) [(.t 5), (.t 6)], (some 7), none, false⟩,
 ⟨.mov (.t 7), (some 4), none, true⟩])
 (.ret))
theorem st74 : stmOf Tryz.prog 51 p74 = some (s74, [.tmp 4], 8) := by kernel_rfl


def isDigit (n : Int) : Bool := decide (48 ≤ n) && decide (n ≤ 57)
def isLetter (n : Int) : Bool := (decide (97 ≤ n) && decide (n ≤ 122)) || (decide (65 ≤ n) && decide (n ≤ 90)) || n == 95
theorem digit_c (n : Int) : PCall Tryz.prog 54 [.int .u8 n] (.bool (isDigit n)) := by
  refine PCall.run (Tab.zero_ok _) st63 (by simp) fun E => ?_
  simp only [s63, zz, zzN, zzF, zzD, zzM, cond_true, cond_false, seval]
  simp only [isDigit, or_self]
  (repeat' split) <;> simp_all <;> omega
theorem letter_c (n : Int) : PCall Tryz.prog 56 [.int .u8 n] (.bool (isLetter n)) := by
  refine PCall.run (Tab.zero_ok _) st62 (by simp) fun E => ?_
  simp only [s62, zz, zzN, zzF, zzD, zzM, cond_true, cond_false, seval]
  simp only [isLetter, or_self]
  (repeat' split) <;> simp_all <;> omega
def q63 : List D → Option D
  | [.int .u8 n] => if True then some (.bool (isDigit n)) else none
  | _ => none
theorem q63_ok (args : List D) (d : D) (h : q63 args = some d) : PCall Tryz.prog 54 args d := by
  unfold q63 at h
  split at h
  · split at h
    · cases h; exact digit_c _
    · cases h
  · cases h

def q62 : List D → Option D
  | [.int .u8 n] => if True then some (.bool (isLetter n)) else none
  | _ => none
theorem q62_ok (args : List D) (d : D) (h : q62 args = some d) : PCall Tryz.prog 56 args d := by
  unfold q62 at h
  split at h
  · split at h
    · cases h; exact letter_c _
    · cases h
  · cases h

theorem notLf_c (n : Int) : PCall Tryz.prog 53 [.int .u8 n] (.bool (n != 10)) := by
  refine PCall.run (Tab.zero_ok _) st76 (by simp) fun E => ?_
  simp only [s76, zz, zzN, zzF, zzD, zzM, cond_true, cond_false, seval]
def q76 : List D → Option D
  | [.int .u8 n] => if True then some (.bool (n != 10)) else none
  | _ => none
theorem q76_ok (args : List D) (d : D) (h : q76 args = some d) : PCall Tryz.prog 53 args d := by
  unfold q76 at h
  split at h
  · split at h
    · cases h; exact notLf_c _
    · cases h
  · cases h

def tb63 : Tab := Tab.zero.addQ 54 q63
theorem tb63_q (g : FuncId) (args : List D) : tb63.q g args = if g = 54 then q63 args else Tab.zero.q g args := rfl
theorem tb63_a : tb63.a = Tab.zero.a := rfl
theorem tb63_c : tb63.c = Tab.zero.c := rfl
theorem tb63_ok : tb63.ok Tryz.prog := Tab.addQ_ok (Tab.zero_ok _) q63_ok
theorem tb63_e : type_of% (And.intro @tb63_q (And.intro @tb63_a @tb63_c)) := (And.intro @tb63_q (And.intro @tb63_a @tb63_c))

def tb62 : Tab := tb63.addQ 56 q62
theorem tb62_q (g : FuncId) (args : List D) : tb62.q g args = if g = 56 then q62 args else tb63.q g args := rfl
theorem tb62_a : tb62.a = tb63.a := rfl
theorem tb62_c : tb62.c = tb63.c := rfl
theorem tb62_ok : tb62.ok Tryz.prog := Tab.addQ_ok tb63_ok q62_ok
theorem tb62_e : type_of% (And.intro (And.intro @tb62_q (And.intro @tb62_a @tb62_c)) @tb63_e) := (And.intro (And.intro @tb62_q (And.intro @tb62_a @tb62_c)) @tb63_e)

theorem nameByte_c (n : Int) : PCall Tryz.prog 57 [.int .u8 n] (.bool (isLetter n || isDigit n)) := by
  refine PCall.run tb62_ok st78 (by simp) fun E => ?_
  simp only [s78, q62, q63, tb62_e, zz, zzN, zzF, zzD, zzM, cond_true, cond_false, seval]
  split <;> simp_all
def q78 : List D → Option D
  | [.int .u8 n] => if True then some (.bool (isLetter n || isDigit n)) else none
  | _ => none
theorem q78_ok (args : List D) (d : D) (h : q78 args = some d) : PCall Tryz.prog 57 args d := by
  unfold q78 at h
  split at h
  · split at h
    · cases h; exact nameByte_c _
    · cases h
  · cases h

def tb76 : Tab := tb62.addQ 53 q76
theorem tb76_q (g : FuncId) (args : List D) : tb76.q g args = if g = 53 then q76 args else tb62.q g args := rfl
theorem tb76_a : tb76.a = tb62.a := rfl
theorem tb76_c : tb76.c = tb62.c := rfl
theorem tb76_ok : tb76.ok Tryz.prog := Tab.addQ_ok tb62_ok q76_ok
theorem tb76_e : type_of% (And.intro (And.intro @tb76_q (And.intro @tb76_a @tb76_c)) @tb62_e) := (And.intro (And.intro @tb76_q (And.intro @tb76_a @tb76_c)) @tb62_e)

def tb78 : Tab := tb76.addQ 57 q78
theorem tb78_q (g : FuncId) (args : List D) : tb78.q g args = if g = 57 then q78 args else tb76.q g args := rfl
theorem tb78_a : tb78.a = tb76.a := rfl
theorem tb78_c : tb78.c = tb76.c := rfl
theorem tb78_ok : tb78.ok Tryz.prog := Tab.addQ_ok tb76_ok q78_ok
theorem tb78_e : type_of% (And.intro (And.intro @tb78_q (And.intro @tb78_a @tb78_c)) @tb76_e) := (And.intro (And.intro @tb78_q (And.intro @tb78_a @tb78_c)) @tb76_e)


/-- How many bytes from the front on are as they must be. -/
def spn (p : Int → Bool) (l : List UInt8) : Nat := (l.takeWhile fun c => p (c.toNat : Int)).length
theorem spn_le (p : Int → Bool) (l : List UInt8) : spn p l ≤ l.length := by
  have := (List.takeWhile_sublist (l := l) fun c => p (c.toNat : Int)).length_le
  exact this
theorem spn_cons (p : Int → Bool) (c : UInt8) (l : List UInt8) : spn p (c :: l) = if p (c.toNat : Int) = true then spn p l + 1 else 0 := by
  simp only [spn, List.takeWhile_cons]
  split <;> simp
theorem drop_cons {s : List UInt8} {i : Nat} (h : i < s.length) : s.drop i = s.getD i 0 :: s.drop (i + 1) := by
  rw [List.drop_eq_getElem_cons h]
  simp [h]

theorem run_c {k : FuncId} {p : Int → Bool} (hq : ∀ n, tb78.q k [.int .u8 n] = some (.bool (p n))) (s : List UInt8) (a : Nat) (h1 : a ≤ 1000000) (h2 : s.length ≤ 1000000) :
    PCall Tryz.prog 52 [.str s, .int .i64 a, .func (.func k) [] []] (.int .i64 (spn p (s.drop a))) := by
  refine PCall.run tb78_ok st75 (by simp) fun E => ?_
  simp only [s75, zz, zzN, zzF, zzD, zzM, cond_true, cond_false, seval]
  refine run_loop (X := Nat) (fun n => [(0, .str s), (1, .int .i64 a), (2, .func (.func k) [] []), (7, .int .i64 n)]) (fun _ => AHeap.emp) (fun n => s.length - n)
    (fun n => (n = 0 ∨ a + n ≤ s.length) ∧ n + spn p (s.drop (a + n)) = spn p (s.drop a)) 0 (by simp) ?_ (AHeap.sub_refl _) ?_
  · simp only [zz, zzN, zzF, zzD, zzM, cond_true, cond_false, seval]
  · rintro n Q ⟨i1, i2⟩ hQ
    have w1 : IntKind.i64.wrap ((a : Int) + (n : Int)) = ((a + n : Nat) : Int) := wrap_add (by omega)
    have wi : IntKind.i64.wrap ((n : Int) + 1) = ((n + 1 : Nat) : Int) := wrap_succ (by omega)
    by_cases c1 : a + n < s.length
    · have g1 : (((a + n : Nat) : Int) < (s.length : Int)) = True := by simp; omega
      rw [drop_cons c1, spn_cons] at i2
      simp only [g1, w1, wi, hq, decide_true, zz, zzN, zzF, zzD, zzM, cond_true, cond_false, seval]
      intro _
      refine ⟨by omega, ?_⟩
      split
      · rename_i hp
        rw [if_pos hp] at i2
        refine hQ (n + 1) _ _ ⟨by omega, by rw [← Nat.add_assoc]; omega⟩ ?_ (AHeap.sub_refl _) (by omega)
        simp only [zz, zzN, zzF, zzD, zzM, cond_true, cond_false, seval]
      · rename_i hp
        rw [if_neg hp] at i2
        exact .inl (by omega)
    · have g1 : (((a + n : Nat) : Int) < (s.length : Int)) = False := by simp; omega
      have e : s.drop (a + n) = [] := List.drop_of_length_le (by omega)
      rw [e] at i2
      simp only [g1, w1, wi, hq, decide_false, zz, zzN, zzF, zzD, zzM, cond_true, cond_false, seval]
      intro _
      simp only [spn, List.takeWhile_nil, List.length_nil] at i2
      exact .inl (by simp only [spn]; omega)
/-- Does a text begin with another one? -/
def pre (s t : List UInt8) : Bool := s.take t.length == t
theorem hasPre_c (s t : List UInt8) : PCall Tryz.prog 79 [.str s, .str t] (.bool (pre s t)) := by
  refine PCall.run tb78_ok st84 (by simp) fun E => ?_
  simp only [s84, zz, zzN, zzF, zzD, zzM, cond_true, cond_false, seval]
  intro _ _
  split
  · exact fun _ => ⟨⟨by omega, by omega⟩, .inl rfl⟩
  · refine .inl ?_
    rename_i h
    have : s.take t.length = s := List.take_of_length_le (by omega)
    simp only [pre, this]
    symm
    apply beq_eq_false_iff_ne.2
    intro e
    rw [e] at h
    omega
def q84 : List D → Option D
  | [.str s, .str t] => if True then some (.bool (pre s t)) else none
  | _ => none
theorem q84_ok (args : List D) (d : D) (h : q84 args = some d) : PCall Tryz.prog 79 args d := by
  unfold q84 at h
  split at h
  · split at h
    · cases h; exact hasPre_c _ _
    · cases h
  · cases h

def tb84 : Tab := tb78.addQ 79 q84
theorem tb84_q (g : FuncId) (args : List D) : tb84.q g args = if g = 79 then q84 args else tb78.q g args := rfl
theorem tb84_a : tb84.a = tb78.a := rfl
theorem tb84_c : tb84.c = tb78.c := rfl
theorem tb84_ok : tb84.ok Tryz.prog := Tab.addQ_ok tb78_ok q84_ok
theorem tb84_e : type_of% (And.intro (And.intro @tb84_q (And.intro @tb84_a @tb84_c)) @tb78_e) := (And.intro (And.intro @tb84_q (And.intro @tb84_a @tb84_c)) @tb78_e)

theorem hasPrefix_c (s t : List UInt8) : PCall Tryz.prog 51 [.str s, .str t] (.bool (pre s t)) := by
  refine PCall.run tb84_ok st74 (by simp) fun E => ?_
  simp only [s74, q84, tb84_e, zz, zzN, zzF, zzD, zzM, cond_true, cond_false, seval]
def q74 : List D → Option D
  | [.str s, .str t] => if True then some (.bool (pre s t)) else none
  | _ => none
theorem q74_ok (args : List D) (d : D) (h : q74 args = some d) : PCall Tryz.prog 51 args d := by
  unfold q74 at h
  split at h
  · split at h
    · cases h; exact hasPrefix_c _ _
    · cases h
  · cases h

def tb74 : Tab := tb84.addQ 51 q74
theorem tb74_q (g : FuncId) (args : List D) : tb74.q g args = if g = 51 then q74 args else tb84.q g args := rfl
theorem tb74_a : tb74.a = tb84.a := rfl
theorem tb74_c : tb74.c = tb84.c := rfl
theorem tb74_ok : tb74.ok Tryz.prog := Tab.addQ_ok tb84_ok q74_ok
theorem tb74_e : type_of% (And.intro (And.intro @tb74_q (And.intro @tb74_a @tb74_c)) @tb84_e) := (And.intro (And.intro @tb74_q (And.intro @tb74_a @tb74_c)) @tb84_e)


def nameP (n : Int) : Bool := isLetter n || isDigit n
/-- What the callers of 'run' hand it. -/
def isByteP : FuncId → Option (Int → Bool)
  | 54 => some isDigit
  | 53 => some fun n => n != 10
  | 57 => some nameP
  | _ => none
def q75 : List D → Option D
  | [.str s, .int .i64 a, .func (.func k) [] []] => match isByteP k with
    | some p => if 0 ≤ a ∧ a ≤ 1000000 ∧ s.length ≤ 1000000 then some (.int .i64 (spn p (s.drop a.toNat))) else none
    | none => none
  | _ => none
theorem isByteP_q {k : FuncId} {p : Int → Bool} (h : isByteP k = some p) (n : Int) : tb78.q k [.int .u8 n] = some (.bool (p n)) := by
  unfold isByteP at h
  split at h <;> cases h <;> simp [nameP, q63, q76, q78, tb78_q, tb76_q, tb62_q, tb63_q]
theorem q75_ok (args : List D) (d : D) (h : q75 args = some d) : PCall Tryz.prog 52 args d := by
  unfold q75 at h
  split at h
  · rename_i s a k
    split at h
    · rename_i p hp
      split at h
      · rename_i hc
        obtain ⟨n, rfl⟩ := Int.eq_ofNat_of_zero_le hc.1
        cases h
        exact run_c (isByteP_q hp) s n (by omega) hc.2.2
      · cases h
    · cases h
  · cases h
def tb75 : Tab := tb74.addQ 52 q75
theorem tb75_q (g : FuncId) (args : List D) : tb75.q g args = if g = 52 then q75 args else tb74.q g args := rfl
theorem tb75_a : tb75.a = tb74.a := rfl
theorem tb75_c : tb75.c = tb74.c := rfl
theorem tb75_ok : tb75.ok Tryz.prog := Tab.addQ_ok tb74_ok q75_ok
theorem tb75_e : type_of% (And.intro (And.intro @tb75_q (And.intro @tb75_a @tb75_c)) @tb74_e) := (And.intro (And.intro @tb75_q (And.intro @tb75_a @tb75_c)) @tb74_e)

end Go.Proofs.YtpagdhbmbnoddaaGreatDoor.Zz
