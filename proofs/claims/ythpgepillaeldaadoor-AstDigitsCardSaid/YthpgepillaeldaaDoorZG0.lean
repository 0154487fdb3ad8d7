/- What the package-level variables hold that the code reads. -/
import Derived.Test.YthpgepillaeldaaDoorZX
namespace Go.Proofs.YthpgepillaeldaaDoor.Zz
-- GLOB internal/strconv.uint64pow10 1 u64 20
def zs1 : List Int := [1, 10, 100, 1000, 10000, 100000, 1000000, 10000000, 100000000, 1000000000, 10000000000, 100000000000, 1000000000000, 10000000000000, 100000000000000, 1000000000000000, 10000000000000000, 100000000000000000, 1000000000000000000, 10000000000000000000]
def gl1 : List D := zs1.map fun z => .int .u64 z
-- INTS internal/bytealg.MaxLen 2 i64
instance globs : Globs := ⟨fun g => if g = 1 then some gl1 else none, fun g => if g = 2 then some .i64 else none⟩
theorem globs_cases {g : Nat} {ds : List D} (e : Globs.of g = some ds) : (g = 1 ∧ ds = gl1) := by
  simp only [Globs.of] at e
  split at e
  · rename_i h; cases e; exact ⟨h, rfl⟩
  · cases e
theorem ints_cases {g : Nat} {k : IntKind} (e : Globs.ints g = some k) : (g = 2 ∧ k = .i64) := by
  simp only [Globs.ints] at e
  split at e
  · rename_i h; cases e; exact ⟨h, rfl⟩
  · cases e
end Go.Proofs.YthpgepillaeldaaDoor.Zz
