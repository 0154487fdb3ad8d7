/-
  No cell of these rows narrows 'for every input' (looked for: loops, veiled, ifaces, maps, wideKeys, modest, calm, conditions, laid).
  DERIVED. THE GIVEN ROWS OF THIS SEAT. 11 by the template 'for every input the law returns true; each argument reads behind the call as it read before'; 0 by the template 'total and deterministic' (their statements: YtaimobfakcompaaTotals.lean).
  GIVEN WITH THE SEED: the statements are not yours to turn. If you find one false, say at which input.
  Laid BY PROGRAM, IN A SANDBOX (cutbox-rows.mjs): the forced cells as the released guide's own fill.sh prints them over the translation 0dc4a2a4cf9272ad… (all of the seat's roots in one cut). By AI agents, Wed Nov 11 2026. No macro, syntax, notation, axiom, sorry.
-/
import Derived.Test.YtaimobfakcompaaChecked
import GoSem.Claim
import GoSem.ClaimJoined
import GoSem.ClaimMapViews
import Derived.JoinedTies
import Derived.KernelRfl
namespace Go.Proofs.Ytaimobfakcompaa
/- THE CELL 'sum', in the pinned program and in every row, IS THE sha256 OF THE DUMP (.gsa) THAT YtaimobfakcompaaProg.lean LOADS. Nothing in Lean hashes anything: it is a label: what it is worth is what the hold of that sum in a sandbox is worth. -/
noncomputable def Try.pinned : Pinned := { name := "ytaimobfakcompaa", sum := "0dc4a2a4cf9272ad4f7fc10bab1cd970648cb54f599cd0e690aef402a0a89be3", checked := Try.checked }
namespace Rows
def none {H : Type} : Left H := { results := [], args := [] }

/-- 'cupellaw22.ProtoFrames': WHATEVER THE INPUT: true; the input reads as it did. -/
def protoFramesSpec : ChangeSpec := { name := "protoFrames", fn := fun _ => fun
  | [d1, d2] => { results := [.lit (.bool true)], args := [d1, d2] }
  | _ => none }
def protoFramesRow : OpenClaim := { program := "ytaimobfakcompaa", sum := "0dc4a2a4cf9272ad4f7fc10bab1cd970648cb54f599cd0e690aef402a0a89be3", func := "cupel/cupellaw22.ProtoFrames", spec := "protoFrames", apart := false }
def ProtoFramesSaid : Prop := protoFramesRow.holds Try.pinned (OpenSpec.ofChange protoFramesSpec)

/-- ITS FALSE NEIGHBOUR: 'it returns false'. Refute it at one input. -/
def protoFramesWrong : ChangeSpec := { name := "protoFrames", fn := fun _ => fun
  | [d1, d2] => { results := [.lit (.bool false)], args := [d1, d2] }
  | _ => none }
def ProtoFramesWrongFalsely : Prop := protoFramesRow.holds Try.pinned (OpenSpec.ofChange protoFramesWrong)

/-- 'cupellaw22.ProtoChunks': WHATEVER THE INPUT: true; the input reads as it did. -/
def protoChunksSpec : ChangeSpec := { name := "protoChunks", fn := fun _ => fun
  | [d1, d2] => { results := [.lit (.bool true)], args := [d1, d2] }
  | _ => none }
def protoChunksRow : OpenClaim := { program := "ytaimobfakcompaa", sum := "0dc4a2a4cf9272ad4f7fc10bab1cd970648cb54f599cd0e690aef402a0a89be3", func := "cupel/cupellaw22.ProtoChunks", spec := "protoChunks", apart := false }
def ProtoChunksSaid : Prop := protoChunksRow.holds Try.pinned (OpenSpec.ofChange protoChunksSpec)

/-- ITS FALSE NEIGHBOUR: 'it returns false'. Refute it at one input. -/
def protoChunksWrong : ChangeSpec := { name := "protoChunks", fn := fun _ => fun
  | [d1, d2] => { results := [.lit (.bool false)], args := [d1, d2] }
  | _ => none }
def ProtoChunksWrongFalsely : Prop := protoChunksRow.holds Try.pinned (OpenSpec.ofChange protoChunksWrong)

/-- 'cupellaw22.ProtoNil': WHATEVER THE INPUT: true; the input reads as it did. -/
def protoNilSpec : ChangeSpec := { name := "protoNil", fn := fun _ => fun
  | [d] => { results := [.lit (.bool true)], args := [d] }
  | _ => none }
def protoNilRow : OpenClaim := { program := "ytaimobfakcompaa", sum := "0dc4a2a4cf9272ad4f7fc10bab1cd970648cb54f599cd0e690aef402a0a89be3", func := "cupel/cupellaw22.ProtoNil", spec := "protoNil", apart := false }
def ProtoNilSaid : Prop := protoNilRow.holds Try.pinned (OpenSpec.ofChange protoNilSpec)

/-- ITS FALSE NEIGHBOUR: 'it returns false'. Refute it at one input. -/
def protoNilWrong : ChangeSpec := { name := "protoNil", fn := fun _ => fun
  | [d] => { results := [.lit (.bool false)], args := [d] }
  | _ => none }
def ProtoNilWrongFalsely : Prop := protoNilRow.holds Try.pinned (OpenSpec.ofChange protoNilWrong)

/-- 'cupellaw09.LexTokens': WHATEVER THE INPUT: true; the input reads as it did. -/
def lexTokensSpec : ChangeSpec := { name := "lexTokens", fn := fun _ => fun
  | [d] => { results := [.lit (.bool true)], args := [d] }
  | _ => none }
def lexTokensRow : OpenClaim := { program := "ytaimobfakcompaa", sum := "0dc4a2a4cf9272ad4f7fc10bab1cd970648cb54f599cd0e690aef402a0a89be3", func := "cupel/cupellaw09.LexTokens", spec := "lexTokens", unfollowed := true, recurses := true, apart := false }
def LexTokensSaid : Prop := lexTokensRow.holds Try.pinned (OpenSpec.ofChange lexTokensSpec)

/-- ITS FALSE NEIGHBOUR: 'it returns false'. Refute it at one input. -/
def lexTokensWrong : ChangeSpec := { name := "lexTokens", fn := fun _ => fun
  | [d] => { results := [.lit (.bool false)], args := [d] }
  | _ => none }
def LexTokensWrongFalsely : Prop := lexTokensRow.holds Try.pinned (OpenSpec.ofChange lexTokensWrong)

/-- 'cupellaw09.LexSpaces': WHATEVER THE INPUT: true; the input reads as it did. -/
def lexSpacesSpec : ChangeSpec := { name := "lexSpaces", fn := fun _ => fun
  | [d1, d2] => { results := [.lit (.bool true)], args := [d1, d2] }
  | _ => none }
def lexSpacesRow : OpenClaim := { program := "ytaimobfakcompaa", sum := "0dc4a2a4cf9272ad4f7fc10bab1cd970648cb54f599cd0e690aef402a0a89be3", func := "cupel/cupellaw09.LexSpaces", spec := "lexSpaces", unfollowed := true, recurses := true, apart := false }
def LexSpacesSaid : Prop := lexSpacesRow.holds Try.pinned (OpenSpec.ofChange lexSpacesSpec)

/-- ITS FALSE NEIGHBOUR: 'it returns false'. Refute it at one input. -/
def lexSpacesWrong : ChangeSpec := { name := "lexSpaces", fn := fun _ => fun
  | [d1, d2] => { results := [.lit (.bool false)], args := [d1, d2] }
  | _ => none }
def LexSpacesWrongFalsely : Prop := lexSpacesRow.holds Try.pinned (OpenSpec.ofChange lexSpacesWrong)

/-- 'cupellaw09.LexPoints': WHATEVER THE INPUT: true; the input reads as it did. -/
def lexPointsSpec : ChangeSpec := { name := "lexPoints", fn := fun _ => fun
  | [d1, d2] => { results := [.lit (.bool true)], args := [d1, d2] }
  | _ => none }
def lexPointsRow : OpenClaim := { program := "ytaimobfakcompaa", sum := "0dc4a2a4cf9272ad4f7fc10bab1cd970648cb54f599cd0e690aef402a0a89be3", func := "cupel/cupellaw09.LexPoints", spec := "lexPoints", unfollowed := true, recurses := true, apart := false }
def LexPointsSaid : Prop := lexPointsRow.holds Try.pinned (OpenSpec.ofChange lexPointsSpec)

/-- ITS FALSE NEIGHBOUR: 'it returns false'. Refute it at one input. -/
def lexPointsWrong : ChangeSpec := { name := "lexPoints", fn := fun _ => fun
  | [d1, d2] => { results := [.lit (.bool false)], args := [d1, d2] }
  | _ => none }
def LexPointsWrongFalsely : Prop := lexPointsRow.holds Try.pinned (OpenSpec.ofChange lexPointsWrong)

/-- 'cupellaw13.ValLaws': WHATEVER THE INPUT: true; the input reads as it did. -/
def valLawsSpec : ChangeSpec := { name := "valLaws", fn := fun _ => fun
  | [d1, d2] => { results := [.lit (.bool true)], args := [d1, d2] }
  | _ => none }
def valLawsRow : OpenClaim := { program := "ytaimobfakcompaa", sum := "0dc4a2a4cf9272ad4f7fc10bab1cd970648cb54f599cd0e690aef402a0a89be3", func := "cupel/cupellaw13.ValLaws", spec := "valLaws", inPlace := ["math.Float64frombits", "math.Float64bits"], apart := false }
def ValLawsSaid : Prop := valLawsRow.holds Try.pinned (OpenSpec.ofChange valLawsSpec)

/-- ITS FALSE NEIGHBOUR: 'it returns false'. Refute it at one input. -/
def valLawsWrong : ChangeSpec := { name := "valLaws", fn := fun _ => fun
  | [d1, d2] => { results := [.lit (.bool false)], args := [d1, d2] }
  | _ => none }
def ValLawsWrongFalsely : Prop := valLawsRow.holds Try.pinned (OpenSpec.ofChange valLawsWrong)

/-- 'cupellaw13.ValOrders': WHATEVER THE INPUT: true; the input reads as it did. -/
def valOrdersSpec : ChangeSpec := { name := "valOrders", fn := fun _ => fun
  | [d1, d2] => { results := [.lit (.bool true)], args := [d1, d2] }
  | _ => none }
def valOrdersRow : OpenClaim := { program := "ytaimobfakcompaa", sum := "0dc4a2a4cf9272ad4f7fc10bab1cd970648cb54f599cd0e690aef402a0a89be3", func := "cupel/cupellaw13.ValOrders", spec := "valOrders", inPlace := ["math.Float64frombits", "math.Float64bits"], apart := false }
def ValOrdersSaid : Prop := valOrdersRow.holds Try.pinned (OpenSpec.ofChange valOrdersSpec)

/-- ITS FALSE NEIGHBOUR: 'it returns false'. Refute it at one input. -/
def valOrdersWrong : ChangeSpec := { name := "valOrders", fn := fun _ => fun
  | [d1, d2] => { results := [.lit (.bool false)], args := [d1, d2] }
  | _ => none }
def ValOrdersWrongFalsely : Prop := valOrdersRow.holds Try.pinned (OpenSpec.ofChange valOrdersWrong)

/-- 'cupellaw13.ValEdges': WHATEVER THE INPUT: true; the input reads as it did. -/
def valEdgesSpec : ChangeSpec := { name := "valEdges", fn := fun _ => fun
  | [d1, d2, d3] => { results := [.lit (.bool true)], args := [d1, d2, d3] }
  | _ => none }
def valEdgesRow : OpenClaim := { program := "ytaimobfakcompaa", sum := "0dc4a2a4cf9272ad4f7fc10bab1cd970648cb54f599cd0e690aef402a0a89be3", func := "cupel/cupellaw13.ValEdges", spec := "valEdges", inPlace := ["math.Float64frombits", "math.Float64bits"], apart := false }
def ValEdgesSaid : Prop := valEdgesRow.holds Try.pinned (OpenSpec.ofChange valEdgesSpec)

/-- ITS FALSE NEIGHBOUR: 'it returns false'. Refute it at one input. -/
def valEdgesWrong : ChangeSpec := { name := "valEdges", fn := fun _ => fun
  | [d1, d2, d3] => { results := [.lit (.bool false)], args := [d1, d2, d3] }
  | _ => none }
def ValEdgesWrongFalsely : Prop := valEdgesRow.holds Try.pinned (OpenSpec.ofChange valEdgesWrong)

/-- 'cupellaw09.LexNames': WHATEVER THE INPUT: true; the input reads as it did. -/
def lexNamesSpec : ChangeSpec := { name := "lexNames", fn := fun _ => fun
  | [d] => { results := [.lit (.bool true)], args := [d] }
  | _ => none }
def lexNamesRow : OpenClaim := { program := "ytaimobfakcompaa", sum := "0dc4a2a4cf9272ad4f7fc10bab1cd970648cb54f599cd0e690aef402a0a89be3", func := "cupel/cupellaw09.LexNames", spec := "lexNames", unfollowed := true, recurses := true, apart := false }
def LexNamesSaid : Prop := lexNamesRow.holds Try.pinned (OpenSpec.ofChange lexNamesSpec)

/-- ITS FALSE NEIGHBOUR: 'it returns false'. Refute it at one input. -/
def lexNamesWrong : ChangeSpec := { name := "lexNames", fn := fun _ => fun
  | [d] => { results := [.lit (.bool false)], args := [d] }
  | _ => none }
def LexNamesWrongFalsely : Prop := lexNamesRow.holds Try.pinned (OpenSpec.ofChange lexNamesWrong)

/-- 'cupellaw13.ValConvs': WHATEVER THE INPUT: true; the input reads as it did. -/
def valConvsSpec : ChangeSpec := { name := "valConvs", fn := fun _ => fun
  | [d] => { results := [.lit (.bool true)], args := [d] }
  | _ => none }
def valConvsRow : OpenClaim := { program := "ytaimobfakcompaa", sum := "0dc4a2a4cf9272ad4f7fc10bab1cd970648cb54f599cd0e690aef402a0a89be3", func := "cupel/cupellaw13.ValConvs", spec := "valConvs", inPlace := ["math.Float64frombits", "math.Float64bits", "math.archTrunc"], apart := false }
def ValConvsSaid : Prop := valConvsRow.holds Try.pinned (OpenSpec.ofChange valConvsSpec)

/-- ITS FALSE NEIGHBOUR: 'it returns false'. Refute it at one input. -/
def valConvsWrong : ChangeSpec := { name := "valConvs", fn := fun _ => fun
  | [d] => { results := [.lit (.bool false)], args := [d] }
  | _ => none }
def ValConvsWrongFalsely : Prop := valConvsRow.holds Try.pinned (OpenSpec.ofChange valConvsWrong)

/- THE SECOND FORM. 'bulk': how many values and letters a reading holds, each counted each time it is reached (what is shared counts as often as it is met; a slice's spare places count too). A statement '..UptoSaid' is the law's where the arguments, and the package variables that the reading takes, are together of bulk at most 1048576: NARROWER than '..Said'. Prove '..Said' where nothing that the law and all that it calls make is longer than what came in: it says more and counts as full. Else prove '..UptoSaid'. A law counts once. -/
mutual
def uptoBulk {H : Type} : DataW H → Nat
  | .lit (.string bytes) => bytes.length + 1
  | .lit _ => 1
  | .nil => 1
  | .ptr d => uptoBulk d + 1
  | .slice elems spare => uptoBulkAll elems + uptoBulkAll spare + 1
  | .agg parts => uptoBulkAll parts + 1
  | .iface _ d => uptoBulk d + 1
  | .map entries => uptoBulkEntries entries + 1
  | .held _ => 1
def uptoBulkAll {H : Type} : List (DataW H) → Nat
  | [] => 0
  | d :: r => uptoBulk d + uptoBulkAll r
def uptoBulkEntries {H : Type} : List (Lit × DataW H) → Nat
  | [] => 0
  | x :: r => uptoBulkEntry x + uptoBulkEntries r
def uptoBulkEntry {H : Type} : Lit × DataW H → Nat
  | (.string bytes, d) => bytes.length + uptoBulk d + 1
  | (_, d) => uptoBulk d + 1
 end
def uptoSmall : (H : Type) → List (DataW H) → Bool := fun _ ds => decide (uptoBulkAll ds ≤ 1048576)
def OpenSpec.upto (s : _root_.Go.ChangeSpec) : _root_.Go.OpenSpec := { _root_.Go.OpenSpec.ofChange s with cond := some uptoSmall }

/-- 'cupellaw22.ProtoFrames', WHERE WHAT IT READS IS OF BULK AT MOST 1048576: true; the input reads as it did. -/
def protoFramesUptoRow : OpenClaim := { program := "ytaimobfakcompaa", sum := "0dc4a2a4cf9272ad4f7fc10bab1cd970648cb54f599cd0e690aef402a0a89be3", func := "cupel/cupellaw22.ProtoFrames", spec := "protoFrames", apart := false, narrowed := true }
def ProtoFramesUptoSaid : Prop := protoFramesUptoRow.holds Try.pinned (OpenSpec.upto protoFramesSpec)

/-- 'cupellaw22.ProtoChunks', WHERE WHAT IT READS IS OF BULK AT MOST 1048576: true; the input reads as it did. -/
def protoChunksUptoRow : OpenClaim := { program := "ytaimobfakcompaa", sum := "0dc4a2a4cf9272ad4f7fc10bab1cd970648cb54f599cd0e690aef402a0a89be3", func := "cupel/cupellaw22.ProtoChunks", spec := "protoChunks", apart := false, narrowed := true }
def ProtoChunksUptoSaid : Prop := protoChunksUptoRow.holds Try.pinned (OpenSpec.upto protoChunksSpec)

/-- 'cupellaw22.ProtoNil', WHERE WHAT IT READS IS OF BULK AT MOST 1048576: true; the input reads as it did. -/
def protoNilUptoRow : OpenClaim := { program := "ytaimobfakcompaa", sum := "0dc4a2a4cf9272ad4f7fc10bab1cd970648cb54f599cd0e690aef402a0a89be3", func := "cupel/cupellaw22.ProtoNil", spec := "protoNil", apart := false, narrowed := true }
def ProtoNilUptoSaid : Prop := protoNilUptoRow.holds Try.pinned (OpenSpec.upto protoNilSpec)

/-- 'cupellaw09.LexTokens', WHERE WHAT IT READS IS OF BULK AT MOST 1048576: true; the input reads as it did. -/
def lexTokensUptoRow : OpenClaim := { program := "ytaimobfakcompaa", sum := "0dc4a2a4cf9272ad4f7fc10bab1cd970648cb54f599cd0e690aef402a0a89be3", func := "cupel/cupellaw09.LexTokens", spec := "lexTokens", unfollowed := true, recurses := true, apart := false, narrowed := true }
def LexTokensUptoSaid : Prop := lexTokensUptoRow.holds Try.pinned (OpenSpec.upto lexTokensSpec)

/-- 'cupellaw09.LexSpaces', WHERE WHAT IT READS IS OF BULK AT MOST 1048576: true; the input reads as it did. -/
def lexSpacesUptoRow : OpenClaim := { program := "ytaimobfakcompaa", sum := "0dc4a2a4cf9272ad4f7fc10bab1cd970648cb54f599cd0e690aef402a0a89be3", func := "cupel/cupellaw09.LexSpaces", spec := "lexSpaces", unfollowed := true, recurses := true, apart := false, narrowed := true }
def LexSpacesUptoSaid : Prop := lexSpacesUptoRow.holds Try.pinned (OpenSpec.upto lexSpacesSpec)

/-- 'cupellaw09.LexPoints', WHERE WHAT IT READS IS OF BULK AT MOST 1048576: true; the input reads as it did. -/
def lexPointsUptoRow : OpenClaim := { program := "ytaimobfakcompaa", sum := "0dc4a2a4cf9272ad4f7fc10bab1cd970648cb54f599cd0e690aef402a0a89be3", func := "cupel/cupellaw09.LexPoints", spec := "lexPoints", unfollowed := true, recurses := true, apart := false, narrowed := true }
def LexPointsUptoSaid : Prop := lexPointsUptoRow.holds Try.pinned (OpenSpec.upto lexPointsSpec)

/-- 'cupellaw13.ValLaws', WHERE WHAT IT READS IS OF BULK AT MOST 1048576: true; the input reads as it did. -/
def valLawsUptoRow : OpenClaim := { program := "ytaimobfakcompaa", sum := "0dc4a2a4cf9272ad4f7fc10bab1cd970648cb54f599cd0e690aef402a0a89be3", func := "cupel/cupellaw13.ValLaws", spec := "valLaws", inPlace := ["math.Float64frombits", "math.Float64bits"], apart := false, narrowed := true }
def ValLawsUptoSaid : Prop := valLawsUptoRow.holds Try.pinned (OpenSpec.upto valLawsSpec)

/-- 'cupellaw13.ValOrders', WHERE WHAT IT READS IS OF BULK AT MOST 1048576: true; the input reads as it did. -/
def valOrdersUptoRow : OpenClaim := { program := "ytaimobfakcompaa", sum := "0dc4a2a4cf9272ad4f7fc10bab1cd970648cb54f599cd0e690aef402a0a89be3", func := "cupel/cupellaw13.ValOrders", spec := "valOrders", inPlace := ["math.Float64frombits", "math.Float64bits"], apart := false, narrowed := true }
def ValOrdersUptoSaid : Prop := valOrdersUptoRow.holds Try.pinned (OpenSpec.upto valOrdersSpec)

/-- 'cupellaw13.ValEdges', WHERE WHAT IT READS IS OF BULK AT MOST 1048576: true; the input reads as it did. -/
def valEdgesUptoRow : OpenClaim := { program := "ytaimobfakcompaa", sum := "0dc4a2a4cf9272ad4f7fc10bab1cd970648cb54f599cd0e690aef402a0a89be3", func := "cupel/cupellaw13.ValEdges", spec := "valEdges", inPlace := ["math.Float64frombits", "math.Float64bits"], apart := false, narrowed := true }
def ValEdgesUptoSaid : Prop := valEdgesUptoRow.holds Try.pinned (OpenSpec.upto valEdgesSpec)

/-- 'cupellaw09.LexNames', WHERE WHAT IT READS IS OF BULK AT MOST 1048576: true; the input reads as it did. -/
def lexNamesUptoRow : OpenClaim := { program := "ytaimobfakcompaa", sum := "0dc4a2a4cf9272ad4f7fc10bab1cd970648cb54f599cd0e690aef402a0a89be3", func := "cupel/cupellaw09.LexNames", spec := "lexNames", unfollowed := true, recurses := true, apart := false, narrowed := true }
def LexNamesUptoSaid : Prop := lexNamesUptoRow.holds Try.pinned (OpenSpec.upto lexNamesSpec)

/-- 'cupellaw13.ValConvs', WHERE WHAT IT READS IS OF BULK AT MOST 1048576: true; the input reads as it did. -/
def valConvsUptoRow : OpenClaim := { program := "ytaimobfakcompaa", sum := "0dc4a2a4cf9272ad4f7fc10bab1cd970648cb54f599cd0e690aef402a0a89be3", func := "cupel/cupellaw13.ValConvs", spec := "valConvs", inPlace := ["math.Float64frombits", "math.Float64bits", "math.archTrunc"], apart := false, narrowed := true }
def ValConvsUptoSaid : Prop := valConvsUptoRow.holds Try.pinned (OpenSpec.upto valConvsSpec)

end Rows
end Go.Proofs.Ytaimobfakcompaa
