/-
  No cell of these rows narrows 'for every input' (looked for: loops, veiled, ifaces, maps, wideKeys, modest, calm, conditions, laid).
  DERIVED. THE GIVEN ROWS OF THIS SEAT. 5 by the template 'for every input the law returns true; each argument reads behind the call as it read before'; 0 by the template 'total and deterministic' (their statements: YtiilnakenlegmaaTotals.lean).
  GIVEN WITH THE SEED: the statements are not yours to turn. If you find one false, say at which input.
  Laid BY PROGRAM, IN A SANDBOX (cutbox-rows.mjs): the forced cells as the released guide's own fill.sh prints them over the translation 57d6d004ad7d3046… (all of the seat's roots in one cut). By AI agents, Wed Nov 11 2026. No macro, syntax, notation, axiom, sorry.
-/
import Derived.Test.YtiilnakenlegmaaChecked
import GoSem.Claim
import GoSem.ClaimJoined
import GoSem.ClaimMapViews
import Derived.JoinedTies
import Derived.KernelRfl
namespace Go.Proofs.Ytiilnakenlegmaa
/- THE CELL 'sum', in the pinned program and in every row, IS THE sha256 OF THE DUMP (.gsa) THAT YtiilnakenlegmaaProg.lean LOADS. Nothing in Lean hashes anything: it is a label: what it is worth is what the hold of that sum in a sandbox is worth. -/
noncomputable def Try.pinned : Pinned := { name := "ytiilnakenlegmaa", sum := "57d6d004ad7d304610e72c7969ee21726dadf1c20d3b3ebea47a89e2f4315b22", checked := Try.checked }
namespace Rows
def none {H : Type} : Left H := { results := [], args := [] }

/-- 'cupellaw01.ShaTurns': WHATEVER THE INPUT: true; the input reads as it did. -/
def shaTurnsSpec : ChangeSpec := { name := "shaTurns", fn := fun _ => fun
  | [d] => { results := [.lit (.bool true)], args := [d] }
  | _ => none }
def shaTurnsRow : OpenClaim := { program := "ytiilnakenlegmaa", sum := "57d6d004ad7d304610e72c7969ee21726dadf1c20d3b3ebea47a89e2f4315b22", func := "cupel/cupellaw01.ShaTurns", spec := "shaTurns", apart := false }
def ShaTurnsSaid : Prop := shaTurnsRow.holds Try.pinned (OpenSpec.ofChange shaTurnsSpec)

/-- ITS FALSE NEIGHBOUR: 'it returns false'. Refute it at one input. -/
def shaTurnsWrong : ChangeSpec := { name := "shaTurns", fn := fun _ => fun
  | [d] => { results := [.lit (.bool false)], args := [d] }
  | _ => none }
def ShaTurnsWrongFalsely : Prop := shaTurnsRow.holds Try.pinned (OpenSpec.ofChange shaTurnsWrong)

/-- 'cupellaw01.ShaDigests': WHATEVER THE INPUT: true; the input reads as it did. -/
def shaDigestsSpec : ChangeSpec := { name := "shaDigests", fn := fun _ => fun
  | [d] => { results := [.lit (.bool true)], args := [d] }
  | _ => none }
def shaDigestsRow : OpenClaim := { program := "ytiilnakenlegmaa", sum := "57d6d004ad7d304610e72c7969ee21726dadf1c20d3b3ebea47a89e2f4315b22", func := "cupel/cupellaw01.ShaDigests", spec := "shaDigests", apart := false }
def ShaDigestsSaid : Prop := shaDigestsRow.holds Try.pinned (OpenSpec.ofChange shaDigestsSpec)

/-- ITS FALSE NEIGHBOUR: 'it returns false'. Refute it at one input. -/
def shaDigestsWrong : ChangeSpec := { name := "shaDigests", fn := fun _ => fun
  | [d] => { results := [.lit (.bool false)], args := [d] }
  | _ => none }
def ShaDigestsWrongFalsely : Prop := shaDigestsRow.holds Try.pinned (OpenSpec.ofChange shaDigestsWrong)

/-- 'cupellaw01.ShaSoaks': WHATEVER THE INPUT: true; the input reads as it did. -/
def shaSoaksSpec : ChangeSpec := { name := "shaSoaks", fn := fun _ => fun
  | [d1, d2] => { results := [.lit (.bool true)], args := [d1, d2] }
  | _ => none }
def shaSoaksRow : OpenClaim := { program := "ytiilnakenlegmaa", sum := "57d6d004ad7d304610e72c7969ee21726dadf1c20d3b3ebea47a89e2f4315b22", func := "cupel/cupellaw01.ShaSoaks", spec := "shaSoaks", apart := false }
def ShaSoaksSaid : Prop := shaSoaksRow.holds Try.pinned (OpenSpec.ofChange shaSoaksSpec)

/-- ITS FALSE NEIGHBOUR: 'it returns false'. Refute it at one input. -/
def shaSoaksWrong : ChangeSpec := { name := "shaSoaks", fn := fun _ => fun
  | [d1, d2] => { results := [.lit (.bool false)], args := [d1, d2] }
  | _ => none }
def ShaSoaksWrongFalsely : Prop := shaSoaksRow.holds Try.pinned (OpenSpec.ofChange shaSoaksWrong)

/-- 'cupellaw01.ShaClashes': WHATEVER THE INPUT: true; the input reads as it did. -/
def shaClashesSpec : ChangeSpec := { name := "shaClashes", fn := fun _ => fun
  | [d1, d2] => { results := [.lit (.bool true)], args := [d1, d2] }
  | _ => none }
def shaClashesRow : OpenClaim := { program := "ytiilnakenlegmaa", sum := "57d6d004ad7d304610e72c7969ee21726dadf1c20d3b3ebea47a89e2f4315b22", func := "cupel/cupellaw01.ShaClashes", spec := "shaClashes", apart := false }
def ShaClashesSaid : Prop := shaClashesRow.holds Try.pinned (OpenSpec.ofChange shaClashesSpec)

/-- ITS FALSE NEIGHBOUR: 'it returns false'. Refute it at one input. -/
def shaClashesWrong : ChangeSpec := { name := "shaClashes", fn := fun _ => fun
  | [d1, d2] => { results := [.lit (.bool false)], args := [d1, d2] }
  | _ => none }
def ShaClashesWrongFalsely : Prop := shaClashesRow.holds Try.pinned (OpenSpec.ofChange shaClashesWrong)

/-- 'cupellaw01.ShaParts': WHATEVER THE INPUT: true; the input reads as it did. -/
def shaPartsSpec : ChangeSpec := { name := "shaParts", fn := fun _ => fun
  | [d1, d2, d3] => { results := [.lit (.bool true)], args := [d1, d2, d3] }
  | _ => none }
def shaPartsRow : OpenClaim := { program := "ytiilnakenlegmaa", sum := "57d6d004ad7d304610e72c7969ee21726dadf1c20d3b3ebea47a89e2f4315b22", func := "cupel/cupellaw01.ShaParts", spec := "shaParts", apart := false }
def ShaPartsSaid : Prop := shaPartsRow.holds Try.pinned (OpenSpec.ofChange shaPartsSpec)

/-- ITS FALSE NEIGHBOUR: 'it returns false'. Refute it at one input. -/
def shaPartsWrong : ChangeSpec := { name := "shaParts", fn := fun _ => fun
  | [d1, d2, d3] => { results := [.lit (.bool false)], args := [d1, d2, d3] }
  | _ => none }
def ShaPartsWrongFalsely : Prop := shaPartsRow.holds Try.pinned (OpenSpec.ofChange shaPartsWrong)

/- THE SECOND FORM. 'bulk': how many values and letters a reading holds, each counted each time it is reached (what is shared counts as often as it is met; a slice's spare places count too). A statement '..UptoSaid' is the law's where the arguments, and the package variables that the reading takes, are together of bulk at most 1048576: NARROWER than '..Said'. Prove '..Said' where nothing that the law and all that it calls make is longer than what came in: it says more and counts as full. Else prove '..UptoSaid'. A law counts once. -/
mutual
def uptoBulk {H : Type} : DataW H → Nat
  | .lit (.string bytes) => bytes.length + 1
  | .lit _ => 1
  | .nil => 1
  | .ptr d => uptoBulk d + 1
  | .slice elems spare => uptoBulkAll elems + uptoBulkAll spare + 1
  | .agg parts => uptoBulkAll parts + 1
  | .iface _ d => uptoBulk d + 1
  | .map entries => uptoBulkEntries entries + 1
  | .held _ => 1
def uptoBulkAll {H : Type} : List (DataW H) → Nat
  | [] => 0
  | d :: r => uptoBulk d + uptoBulkAll r
def uptoBulkEntries {H : Type} : List (Lit × DataW H) → Nat
  | [] => 0
  | x :: r => uptoBulkEntry x + uptoBulkEntries r
def uptoBulkEntry {H : Type} : Lit × DataW H → Nat
  | (.string bytes, d) => bytes.length + uptoBulk d + 1
  | (_, d) => uptoBulk d + 1
 end
def uptoSmall : (H : Type) → List (DataW H) → Bool := fun _ ds => decide (uptoBulkAll ds ≤ 1048576)
def OpenSpec.upto (s : _root_.Go.ChangeSpec) : _root_.Go.OpenSpec := { _root_.Go.OpenSpec.ofChange s with cond := some uptoSmall }

/-- 'cupellaw01.ShaTurns', WHERE WHAT IT READS IS OF BULK AT MOST 1048576: true; the input reads as it did. -/
def shaTurnsUptoRow : OpenClaim := { program := "ytiilnakenlegmaa", sum := "57d6d004ad7d304610e72c7969ee21726dadf1c20d3b3ebea47a89e2f4315b22", func := "cupel/cupellaw01.ShaTurns", spec := "shaTurns", apart := false, narrowed := true }
def ShaTurnsUptoSaid : Prop := shaTurnsUptoRow.holds Try.pinned (OpenSpec.upto shaTurnsSpec)

/-- 'cupellaw01.ShaDigests', WHERE WHAT IT READS IS OF BULK AT MOST 1048576: true; the input reads as it did. -/
def shaDigestsUptoRow : OpenClaim := { program := "ytiilnakenlegmaa", sum := "57d6d004ad7d304610e72c7969ee21726dadf1c20d3b3ebea47a89e2f4315b22", func := "cupel/cupellaw01.ShaDigests", spec := "shaDigests", apart := false, narrowed := true }
def ShaDigestsUptoSaid : Prop := shaDigestsUptoRow.holds Try.pinned (OpenSpec.upto shaDigestsSpec)

/-- 'cupellaw01.ShaSoaks', WHERE WHAT IT READS IS OF BULK AT MOST 1048576: true; the input reads as it did. -/
def shaSoaksUptoRow : OpenClaim := { program := "ytiilnakenlegmaa", sum := "57d6d004ad7d304610e72c7969ee21726dadf1c20d3b3ebea47a89e2f4315b22", func := "cupel/cupellaw01.ShaSoaks", spec := "shaSoaks", apart := false, narrowed := true }
def ShaSoaksUptoSaid : Prop := shaSoaksUptoRow.holds Try.pinned (OpenSpec.upto shaSoaksSpec)

/-- 'cupellaw01.ShaClashes', WHERE WHAT IT READS IS OF BULK AT MOST 1048576: true; the input reads as it did. -/
def shaClashesUptoRow : OpenClaim := { program := "ytiilnakenlegmaa", sum := "57d6d004ad7d304610e72c7969ee21726dadf1c20d3b3ebea47a89e2f4315b22", func := "cupel/cupellaw01.ShaClashes", spec := "shaClashes", apart := false, narrowed := true }
def ShaClashesUptoSaid : Prop := shaClashesUptoRow.holds Try.pinned (OpenSpec.upto shaClashesSpec)

/-- 'cupellaw01.ShaParts', WHERE WHAT IT READS IS OF BULK AT MOST 1048576: true; the input reads as it did. -/
def shaPartsUptoRow : OpenClaim := { program := "ytiilnakenlegmaa", sum := "57d6d004ad7d304610e72c7969ee21726dadf1c20d3b3ebea47a89e2f4315b22", func := "cupel/cupellaw01.ShaParts", spec := "shaParts", apart := false, narrowed := true }
def ShaPartsUptoSaid : Prop := shaPartsUptoRow.holds Try.pinned (OpenSpec.upto shaPartsSpec)

end Rows
end Go.Proofs.Ytiilnakenlegmaa
