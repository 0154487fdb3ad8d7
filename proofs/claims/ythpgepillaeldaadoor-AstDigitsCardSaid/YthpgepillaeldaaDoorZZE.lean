/- Ranges over texts. -/
import Derived.Test.YthpgepillaeldaaDoorZY
import Derived.Laws.RangeString
set_option linter.unusedVariables false
set_option linter.unusedSimpArgs false
namespace Go.Proofs.YthpgepillaeldaaDoor.Zz
variable {T : Tab} {h : AHeap} {K E : D → AHeap → Prop}
theorem i_srange {s : List UInt8} : vcI T (.srange (.str s)) h K E = ∀ id, h.f id = none → K (.iter id) (h.set id (.siter s 0)) := rfl
def snx (id : Nat) (h : AHeap) (K : D → AHeap → Prop) : Option AObj → Prop
  | some (.siter s pos) => (pos < s.length → K (.tuple [.bool true, .int .i64 (pos : Int), .int .i32 ((Utf8.decode ⟨s.toArray⟩ pos).1 : Int)]) (h.set id (.siter s (pos + (Utf8.decode ⟨s.toArray⟩ pos).2)))) ∧ (s.length ≤ pos → K (.tuple [.bool false]) h)
  | _ => False
theorem i_snext {id : Nat} : vcI T (.snext (.iter id)) h K E = snx id h K (h.f id) := by
  show (match h.f id with | some (.siter s pos) => _ | _ => False) = _
  generalize h.f id = o
  cases o with
  | none => rfl
  | some o => cases o <;> rfl
theorem snx_siter {id : Nat} {s : List UInt8} {pos : Nat} : snx id h K (some (.siter s pos)) = ((pos < s.length → K (.tuple [.bool true, .int .i64 (pos : Int), .int .i32 ((Utf8.decode ⟨s.toArray⟩ pos).1 : Int)]) (h.set id (.siter s (pos + (Utf8.decode ⟨s.toArray⟩ pos).2)))) ∧ (s.length ≤ pos → K (.tuple [.bool false]) h)) := rfl
/-- One byte that is a rune of its own. -/
theorem decode_one {s : List UInt8} {pos : Nat} {c : UInt8} (hc : s[pos]? = some c) (h7 : c < 128) : Utf8.decode ⟨s.toArray⟩ pos = (c.toNat, 1) := by
  have hlt : pos < s.length := (List.getElem?_eq_some_iff.1 hc).1
  have e : (⟨s.toArray⟩ : ByteArray)[pos]'(by simpa [ByteArray.size] using hlt) = c := by
    have : s[pos] = c := (List.getElem?_eq_some_iff.1 hc).2
    exact this
  rw [decode_ascii (⟨s.toArray⟩ : ByteArray) pos (by simpa [ByteArray.size] using hlt) (by rw [e]; exact UInt8.lt_iff_toNat_lt.1 h7), e]
end Go.Proofs.YthpgepillaeldaaDoor.Zz
