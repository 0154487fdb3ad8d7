/- The law CheckAgain returns true whatever its arguments, and they read as they did. No condition. -/
import Derived.Test.YtpklkpkfgmoghaaGreatDoorRows
import Derived.Test.YtpklkpkfgmoghaaGreatDoorTie
import Derived.Test.YtpklkpkfgmoghaaGreatDoorCards
import Derived.SevenTiedAt
import Derived.Test.YtpklkpkfgmoghaaGreatDoorZZC
import Derived.Test.YtpklkpkfgmoghaaGreatDoorZC36
import Derived.Test.YtpklkpkfgmoghaaGreatDoorZZC
import Derived.WalkKit
import Derived.ProofKit
import Derived.OpenShut
import Derived.ShutString
import Derived.Below
set_option maxRecDepth 100000
namespace Go.Proofs.YtpklkpkfgmoghaaGreatDoor.checkAgain
open Go.ChangeShapes Go.WideShapes Go.ChangeAt Go.RowKit
open Go.ChangeMaps (open_string shut_string)
set_option linter.unusedVariables false

theorem own : ownKnob Tryz.prog.godebug = none := by kernel_rfl
theorem laidOut : laidOutB Tryz.prog = true := by kernel_rfl
theorem gt0 : (Tryz.prog.globals[0]?).map (·.type) = some 127 := by kernel_rfl
theorem it2 : ((begin Tryz.prog (fun _ _ => 0) default).world.heap[2]?).bind Obj.row? = some (#[.int .i64 0], 3) := by kernel_rfl

theorem Vc {W : World} (h : laidMet Tryz.prog Rows.checkAgainRow.laid W) (hs : W.ShapedOpen Tryz.prog) : Zz.iX (Zz.du W) W := by
  constructor
  · intro g ds e
    rcases Zz.HA e with ⟨rfl, rfl⟩
    · obtain ⟨cs, ty, h1, h2, h3⟩ := Zz.SE (κ := Zz.du W) h (i := 2) (t := 127) (N := 20) (e := 110) Zz.zs0 rfl (by kernel_rfl) gt0 (by kernel_rfl) (by kernel_rfl) (by kernel_rfl) (by kernel_rfl) (by decide)
      exact ⟨(Array.getElem?_eq_some_iff.1 h1).1, cs, ty, h1, by rw [h2]; rfl, h3⟩
  · intro g k e
    rcases Zz.LW e with ⟨rfl, rfl⟩
    · have := Go.Proofs.cell_of_shapedOpen_int (g := 2) (k := .i64) hs (by decide) it2 rfl (by kernel_rfl) (by kernel_rfl) (by kernel_rfl)
      obtain ⟨m, hm⟩ := this
      exact ⟨Zz.M6 hm, m, hm⟩

noncomputable def wit (os : Os) : World :=
  let N := (World.settled Tryz.prog os).heap.size
  let w0 := World.holding Tryz.prog os ⟨#[.cells #[.string ⟨#[118, 97, 108, 117, 101, 32, 111, 117, 116, 32, 111, 102, 32, 114, 97, 110, 103, 101]⟩] 175, .cells #[.string ⟨#[105, 110, 118, 97, 108, 105, 100, 32, 115, 121, 110, 116, 97, 120]⟩] 175], #[], []⟩
  { w0 with heap := Zz.U6 w0.heap [(3, #[.int .u8 0, .int .u8 1, .int .u8 28, .int .u8 2, .int .u8 29, .int .u8 14, .int .u8 24, .int .u8 3, .int .u8 30, .int .u8 22, .int .u8 20, .int .u8 15, .int .u8 25, .int .u8 17, .int .u8 4, .int .u8 8, .int .u8 31, .int .u8 27, .int .u8 13, .int .u8 23, .int .u8 21, .int .u8 19, .int .u8 16, .int .u8 7, .int .u8 26, .int .u8 12, .int .u8 18, .int .u8 6, .int .u8 11, .int .u8 5, .int .u8 10, .int .u8 9]), (4, #[.int .u8 0, .int .u8 1, .int .u8 56, .int .u8 2, .int .u8 57, .int .u8 49, .int .u8 28, .int .u8 3, .int .u8 61, .int .u8 58, .int .u8 42, .int .u8 50, .int .u8 38, .int .u8 29, .int .u8 17, .int .u8 4, .int .u8 62, .int .u8 47, .int .u8 59, .int .u8 36, .int .u8 45, .int .u8 43, .int .u8 51, .int .u8 22, .int .u8 53, .int .u8 39, .int .u8 33, .int .u8 30, .int .u8 24, .int .u8 18, .int .u8 12, .int .u8 5, .int .u8 63, .int .u8 55, .int .u8 48, .int .u8 27, .int .u8 60, .int .u8 41, .int .u8 37, .int .u8 16, .int .u8 46, .int .u8 35, .int .u8 44, .int .u8 21, .int .u8 52, .int .u8 32, .int .u8 23, .int .u8 11, .int .u8 54, .int .u8 26, .int .u8 40, .int .u8 15, .int .u8 34, .int .u8 20, .int .u8 31, .int .u8 10, .int .u8 25, .int .u8 14, .int .u8 19, .int .u8 9, .int .u8 13, .int .u8 8, .int .u8 7, .int .u8 6]), (0, #[.int .u64 1, .int .u64 10, .int .u64 100, .int .u64 1000, .int .u64 10000, .int .u64 100000, .int .u64 1000000, .int .u64 10000000, .int .u64 100000000, .int .u64 1000000000, .int .u64 10000000000, .int .u64 100000000000, .int .u64 1000000000000, .int .u64 10000000000000, .int .u64 100000000000000, .int .u64 1000000000000000, .int .u64 10000000000000000, .int .u64 100000000000000000, .int .u64 1000000000000000000, .int .u64 10000000000000000000]), (8, #[.int .u8 128, .int .u8 191, .int .u8 160, .int .u8 191, .int .u8 128, .int .u8 159, .int .u8 144, .int .u8 191, .int .u8 128, .int .u8 143, .int .u8 0, .int .u8 0, .int .u8 0, .int .u8 0, .int .u8 0, .int .u8 0, .int .u8 0, .int .u8 0, .int .u8 0, .int .u8 0, .int .u8 0, .int .u8 0, .int .u8 0, .int .u8 0, .int .u8 0, .int .u8 0, .int .u8 0, .int .u8 0, .int .u8 0, .int .u8 0, .int .u8 0, .int .u8 0]), (6, #[.iface 173 (.pointer (some ⟨N + 0, 0, none⟩))]), (5, #[.iface 173 (.pointer (some ⟨N + 1, 0, none⟩))]), (7, (Zz.cellsOf Go.Pinned.utf8First).toArray)] }
theorem VI (os : Os) (args : Array Value) : laidMet Tryz.prog Rows.checkAgainRow.laid ((wit os).forCall (fun _ _ => 0) ⟨#[], args, []⟩).memory :=
  laidMet_of_run3 12 (by kernel_rfl) (by kernel_rfl) (by kernel_rfl)

set_option maxRecDepth 100000 in
theorem lifted (os : Os) (started : os.Started) (H : Type) (enc : TypeId × Value → H) :
    ReturnsInHanded {} Tryz.checked os 4 .any (fun w args => (Rows.checkAgainSpec.pre enc Tryz.prog Tryz.f4 Rows.checkAgainRow.domain false w args ∧ laidMet Tryz.prog Rows.checkAgainRow.laid w) ∧ sizedMet enc Tryz.prog Tryz.f4 (OpenSpec.ofChange Rows.checkAgainSpec) false w args)
      (Rows.checkAgainSpec.post enc Tryz.prog Tryz.f4 false true false false) := by
  refine Zz.FK (C := Tryz.checked) (X := fun w _ => laidMet Tryz.prog Rows.checkAgainRow.laid w) (fun _ _ _ hh h => h.of_heap hh) own started (by kernel_rfl) Tryz.func4
    (ChangeSpec.witness_at (enc := enc) (C := Tryz.checked) (os := os) (X := fun w _ => laidMet Tryz.prog Rows.checkAgainRow.laid w) false (wit os) #[.slice none 0 0] 8 rfl (by kernel_rfl) (by kernel_rfl) (by kernel_rfl) (by kernel_rfl) (by kernel_rfl) (VI os _)) ?_
  intro W base args ds gs before abJ hW ap_ hL hS
  have ahx := Vc hL hS
  have vK : ∀ (j : Nat) t v, Tryz.f4.params[j]? = some t → args[j]? = some v → Value.okWide Tryz.prog W .any base t v := abJ
  have hW' := hW
  obtain ⟨p, q, hA0, hV, rfl, hfz, hnd⟩ := hW
  have hA : DataW.TrodAll enc Tryz.prog W 0 (fun _ => true) true Tryz.f4.params.toList args.toList ds p := hA0
  rw [Tryz.params4] at hA vK
  obtain ⟨v0, vs0, d0, ds0, p0, q0, aok, rfl, rfl, h0, r0'⟩ := trodAll_cons hA
  obtain ⟨rfl, rfl, rfl⟩ := trodAll_nil r0'
  obtain rfl : args = #[v0] := by cases args; simp_all
  obtain ⟨rfl, rfl⟩ := trodVars_none hV
  obtain ⟨a0, tl, ale, rfl⟩ := okWide_slice Tryz.underlying22 (vK 0 22 v0 rfl rfl)
  have k0 := h0
  have lt0 : ∀ x ∈ p0, x.block < W.heap.size := by obtain ⟨m, hm⟩ := k0; exact DataW.trod_lt m _ _ _ hm
  obtain ⟨l0, w0, r0⟩ := Zz.VB Tryz.underlying22 Tryz.underlying3 (by kernel_rfl) h0
  clear hA0 abJ
  simp only [List.append_nil] at hW'
  refine (Zz.aep (f := 4) (Zz.E5 _) ahx (vs := #[_]) (.cons r0 .nil)).mono fun e W' ⟨he, bel⟩ => ?_
  subst he
  exact ⟨_, rfl, _, _, _, [], _, [], hW', trodAll_mk1 (shut_bool Tryz.underlying4 _), (trodAll_cons_mk (Below.trod laidOut (by kernel_rfl) (of_decide_eq_true (by kernel_rfl)) k0 bel lt0) trodAll_mk0), rfl, bel.frame _, fun h => by cases h⟩

theorem over : Rows.checkAgainRow.holds Tryz.pinned (OpenSpec.ofChange Rows.checkAgainSpec) :=
  OpenClaim.holds_of_wide 4 Tryz.f4 rfl rfl rfl rfl rfl rfl rfl ⟨rfl, rfl, rfl, rfl, rfl⟩ rfl rfl rfl rfl rfl (by kernel_rfl) Tryz.func4 (by kernel_rfl)
    (of_decide_eq_true (by kernel_rfl)) (by unfold Func.isWrapper; first | (rw [if_pos (by decide +kernel)]; kernel_rfl) | (rw [if_neg (by decide +kernel)]; exact ⟨rfl, rfl⟩))
    (fun os started H enc _ => lifted os started H enc)

/-- The statement. -/
theorem proved : Rows.CheckAgainCardSaid :=
  Claim7.holds_tied_plain_at .later [] [.data, .data, .data, .data, .sentinel, .sentinel, .pinned] true (true, "944972639acae217a82e8f457bbbf6a85bd447725aa2f351b91912dd5a66a8f5") true
    over (fun _ h => by cases h) (by kernel_rfl) (fun _ h => by cases h) checkAgain_row_tie rfl ⟨rfl, rfl⟩ (by kernel_rfl) rfl
    (fun f fn hf hfn => by
      obtain rfl : f = 4 := Option.some.inj ((show Tryz.prog.funcNamed "cupel/cupellaw12.CheckAgain" = some 4 by kernel_rfl).symm.trans hf) |>.symm
      obtain rfl : fn = Tryz.f4 := (Option.some.inj (Tryz.func4.symm.trans hfn)).symm
      exact ⟨by kernel_rfl, fun j t ht => by
        rw [Tryz.params4] at ht
        have key : ∀ x ∈ ([22] : List TypeId), Tryz.prog.wantsStandIn x = false := by
          intro x hx
          simp only [List.mem_cons, List.not_mem_nil, or_false] at hx
          rcases hx with rfl
          all_goals kernel_rfl
        exact key t (by
          have := List.mem_of_getElem? (l := [22]) (i := j) (a := t) (by simpa using ht)
          exact this)⟩)
    (by kernel_rfl)
#print axioms proved
end Go.Proofs.YtpklkpkfgmoghaaGreatDoor.checkAgain
