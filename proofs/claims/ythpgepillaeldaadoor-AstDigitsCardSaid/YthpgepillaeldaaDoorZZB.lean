/- Contracts of Go's library that the kit proved over worlds, as contracts of plain data. -/
import Derived.Test.YthpgepillaeldaaDoorZX
import Derived.Below
import Derived.Sort.Row
import Derived.Sort.Grow
import Derived.Deep.Draws
import Derived.Lib.LaidTab
import Derived.Lib.Join
set_option linter.unusedVariables false
set_option linter.unusedSimpArgs false
namespace Go.Proofs.YthpgepillaeldaaDoor.Zz
open Go.RowKit

theorem PCall.of_below [Globs] {P : Program} {f : FuncId} {args : List D} {d : D} (hc : callable P f = true)
    (h : ∀ (κ : Kap) (w : World) (vs : Array Value), GlobRep κ w → RepL κ w vs.toList args → (∀ b, κ.imm b → b < w.heap.size) →
      Calls P f vs w fun e w' => ∃ v, e = .returned v ∧ (∀ (κ' : Kap) (w'' : World), Rep κ' w'' v d) ∧ Below w.heap.size w w') : PCall P f args d := by
  refine ⟨hc, fun κ w vs hi hr => (h κ w vs hi.glob hr hi.immLt).mono fun e w' ⟨v, e1, r, b⟩ => ?_⟩
  subst e1
  have le : Le κ w κ w' := ⟨fun x hx => ⟨hx, b.block x (hi.immLt x hx)⟩, (Le.refl κ w).loc⟩
  refine ⟨.ret d, .emp, κ, rfl, .ret (r _ _), ⟨fun x hx => Nat.lt_of_lt_of_le (hi.immLt x hx) b.size, fun i p hp => Nat.lt_of_lt_of_le (hi.locLt i p hp) b.size, hi.fresh, fun i o ho => (by cases ho), fun i j oi oj pi pj ho => (by cases ho), hi.glob.mono le⟩, ?_⟩
  exact ⟨b.os, b.tape, b.output, b.size, fun x hx _ => b.block x hx, fun _ h => h, fun _ _ h => .inl h, le.loc, fun _ _ h _ => h, fun _ _ h => h, fun _ _ _ h => h⟩

theorem below_grow (w : World) (k : Nat) (os : Array Obj) : Below w.heap.size w (Go.Sort.grow (w.drewN k) os) := by
  refine ⟨rfl, rfl, rfl, ?_, fun i hi => ?_⟩
  · simp [Go.Sort.grow, World.drewN]
  · show (w.heap ++ os)[i]? = _
    rw [Array.getElem?_append_left hi]
theorem below_drewN (w : World) (k : Nat) : Below w.heap.size w (w.drewN k) := ⟨rfl, rfl, rfl, Nat.le_refl _, fun _ _ => rfl⟩

/-- A table of whole numbers that the code reads. -/
theorem tab_of [Globs] {P : Program} {κ : Kap} {w : World} {n : String} {g : Nat} {k : IntKind} {zs : List Int} (h : GlobRep κ w) (hg : P.globalNamed n = some g) (e : Globs.of g = some (zs.map fun z => .int k z)) : Lib.TabIs P w n k zs := by
  obtain ⟨_, cs, t, h1, h2, h3⟩ := h.of g _ e
  unfold Lib.TabIs World.var?
  rw [hg, Option.bind_some, h1]
  show some cs = _
  congr 1
  apply Array.ext'
  apply List.ext_getElem?
  intro j
  by_cases hj : j < zs.length
  · obtain ⟨v, h4, h5⟩ := h3 j (.int k zs[j]) (by simp [hj])
    cases h5
    simp [h4, hj]
  · have : cs.size = zs.length := by simpa using h2
    rw [List.getElem?_eq_none (by simp; omega), List.getElem?_eq_none (by simp; omega)]

/-- A string that reads as bytes. -/
theorem rep_str_inv {κ : Kap} {w : World} {v : Value} {s : List UInt8} (h : Rep κ w v (.str s)) : v = .string ⟨s.toArray⟩ ∧ s.length ≤ 9223372036854775807 := by
  cases h with
  | str _ h => exact ⟨rfl, h⟩
theorem rep_int_inv {κ : Kap} {w : World} {v : Value} {k : IntKind} {n : Int} (h : Rep κ w v (.int k n)) : v = .int k n := by cases h; rfl

/-- A slice of texts. -/
theorem rep_encS_inv {κ : Kap} {w : World} {v : Value} {l : List (List UInt8)} (h : Rep κ w v (.sl (encS l))) : (l = [] ∧ ∃ a c, v = .slice a 0 c) ∨
    ∃ b o cap, v = .slice (some ⟨b, o, none⟩) l.length cap ∧ l.length ≤ cap ∧ ∀ (j : Nat) (s : List UInt8), l[j]? = some s → κ.imm b ∧ w.cell? ⟨b, o + j, none⟩ = some (.string ⟨s.toArray⟩) := by
  generalize hx : encS l = xs at h
  cases h with
  | slnil hb =>
    left
    refine ⟨?_, _, _, rfl⟩
    simpa [encS] using hx
  | sl f hn hcap hsz hc hr =>
    subst hx
    have hl : (encS l).length = l.length := len_encS
    by_cases h0 : l = []
    · left
      subst h0
      exact ⟨rfl, _, _, rfl⟩
    right
    rename_i b o sz cap
    have hsz1 : sz = 1 := by
      cases l with
      | nil => exact absurd rfl h0
      | cons s l => exact (hsz [.str s] (by simp [encS])).symm
    subst hsz1
    refine ⟨b, o, cap, by rw [hl], by omega, fun j s hj => ?_⟩
    have e1 : (encS l)[j]? = some [.str s] := by rw [encS_get, hj]; rfl
    obtain ⟨h1, h2⟩ := hc j [.str s] 0 (.str s) e1 rfl
    have h3 := hr j [.str s] 0 (.str s) e1 rfl
    rw [(rep_str_inv h3).1] at h2
    exact ⟨h1, by simpa using h2⟩

/-! ### Bytes in an array of the call's own -/
def encC (l : List UInt8) : List D := l.map fun b => .int .u8 b.toNat
theorem encC_set {l : List UInt8} {i : Nat} {b : UInt8} : (encC l).set i (.int .u8 b.toNat) = encC (l.set i b) := by simp [encC, List.map_set]
theorem len_encC {l : List UInt8} : (encC l).length = l.length := by simp [encC]
theorem i_str_cslAt {T : Tab} {h : AHeap} {K E : D → AHeap → Prop} {id off n : Nat} {l : List UInt8} (e : h.f id = some (.cells (encC l))) (hn : off + n ≤ l.length) : vcI T (.conv .bytesStr (.csl id off n)) h K E = K (.str ((l.drop off).take n)) h := by
  rw [i_bytesStr]
  have e1 : (((encC l).drop off).take n).map (fun d => [d]) = encB ((l.drop off).take n) := by simp only [encC, encB, List.map_drop, List.map_take, List.map_map]; rfl
  have e2 : readEv h (.conv .bytesStr (.csl id off n)) = some (.str ((l.drop off).take n)) := by
    simp only [readEv, elemsOf, e, len_encC, hn, if_true, e1, enc_all, enc_dec]
  rw [e2, ask_some]
theorem i_str_cslC {T : Tab} {h : AHeap} {K E : D → AHeap → Prop} {id n : Nat} {l : List UInt8} (e : h.f id = some (.cells (encC l))) (hn : l.length = n) : vcI T (.conv .bytesStr (.csl id 0 n)) h K E = K (.str l) h := by
  rw [i_str_cslAt e (by omega), List.drop_zero, List.take_of_length_le (by omega)]

/-- A call that writes bytes into a part of an array of ours. -/
theorem ACalls.of_bytes [Globs] {P : Program} {f : FuncId} {h : AHeap} {id off n : Nat} {l : List UInt8} {args : List D} (hc : callable P f = true) (hid : h.f id = some (.cells (encC l))) (hn : off + n ≤ l.length) (h0 : 0 < n) {Q : List UInt8 → Prop}
    (hk : ∀ (κ : Kap) (w : World) (vs : List Value) (blk cap : Nat), GlobRep κ w → RepL κ w vs args → Go.Sort.Holds (fun b : UInt8 => Value.int .u8 (b.toNat : Int)) w blk off ((l.drop off).take n).toArray →
      Calls P f (.slice (some ⟨blk, off, none⟩) n cap :: vs).toArray w fun e w' => e = .returned (.tuple #[]) ∧ ∃ (N : Nat) (dk : Array UInt8), w' = (Go.Sort.putRow (fun b : UInt8 => Value.int .u8 (b.toNat : Int)) w blk off dk).drewN N ∧ dk.size = n ∧ Q dk.toList) :
    ACalls P f (.csl id off n :: args) h fun o h' => o = .ret (.tuple []) ∧ ∃ r, Q r ∧ r.length = n ∧ h' = h.set id (.cells (encC (l.take off ++ r ++ l.drop (off + n)))) := by
  refine ⟨hc, fun κ w vs hi hr => ?_⟩
  obtain ⟨vl⟩ := vs
  cases hr with
  | cons h1 h2 =>
    rename_i v vs
    cases h1 with
    | csl hl hv hn' hcap ha =>
      rename_i cap p a
      obtain ⟨p', hp', ho⟩ := hi.obj id _ hid
      rw [hl] at hp'
      cases hp'
      obtain ⟨o1, o2, o3, cs, t, o4, o5, o6⟩ := ho
      have hcl : cs.size = l.length := by rw [o5, len_encC]
      have at_ : ∀ (i : Nat) (b : UInt8), l[i]? = some b → cs[i]? = some (Value.int .u8 (b.toNat : Int)) := fun i b hb => by
        obtain ⟨v, e1, e2⟩ := o6 i (D.int .u8 (b.toNat : Int)) (by simp [encC, hb])
        rw [rep_int_inv e2] at e1
        exact e1
      rcases ha o1 with hz | hz
      · omega
      rw [o2, Nat.zero_add] at hz
      subst hz
      have hold : Go.Sort.Holds (fun b : UInt8 => Value.int .u8 (b.toNat : Int)) w p.blk off ((l.drop off).take n).toArray := by
        intro j hj
        have hj' : j < n := by simp at hj; omega
        have e1 : ((l.drop off).take n).toArray[j]! = l[off + j]'(by omega) := by
          rw [getElem!_pos _ j hj]
          simp
        refine ⟨?_, ?_⟩
        · rw [e1]
          have := at_ (off + j) (l[off + j]'(by omega)) (List.getElem?_eq_getElem _)
          simp only [World.cell?, o4]
          exact this
        · simp [World.frozen?, o4]
      refine (hk κ w vs p.blk cap hi.glob h2 hold).mono fun e w' ⟨e1, N, dk, e2, e3, e4⟩ => ?_
      subst e1 e2
      have hput : Go.Sort.putRow (fun b : UInt8 => Value.int .u8 (b.toNat : Int)) w p.blk off dk = w.setRow p.blk (Go.Sort.putCells (fun b : UInt8 => Value.int .u8 (b.toNat : Int)) off dk cs) := by
        unfold Go.Sort.putRow
        rw [Go.Sort.mapBlock_congr w p.blk _ (fun _ => Go.Sort.putCells (fun b : UInt8 => Value.int .u8 (b.toNat : Int)) off dk cs) (fun c e fr hh => by rw [o4] at hh; cases hh; rfl)]
        unfold Go.Sort.mapBlock World.setRow
        congr 1
      have own : Owned κ h p.blk := ⟨id, _, p, hid, rfl, hl, rfl⟩
      have hll : (l.take off ++ dk.toList ++ l.drop (off + n)).length = l.length := by simp; omega
      have key := write_obj hi (o' := .cells (encC (l.take off ++ dk.toList ++ l.drop (off + n)))) hid hl rfl rfl (Go.Sort.putCells (fun b : UInt8 => Value.int .u8 (b.toNat : Int)) off dk cs) (by
        refine ⟨o1, o2, o3, Go.Sort.putCells (fun b : UInt8 => Value.int .u8 (b.toNat : Int)) off dk cs, t, ?_, ?_, ?_⟩
        · simp [World.setRow, Array.getElem?_modify, o4]
        · simp only [Go.Sort.putCells, Array.size_mapIdx, hcl, len_encC, hll]
        · intro i d hd
          obtain ⟨b, hb, rfl⟩ : ∃ b, (l.take off ++ dk.toList ++ l.drop (off + n))[i]? = some b ∧ d = .int .u8 (b.toNat : Int) := by
            simp only [encC, List.getElem?_map, Option.map_eq_some_iff] at hd
            obtain ⟨b, h1, h2⟩ := hd
            exact ⟨b, h1, h2.symm⟩
          refine ⟨.int .u8 (b.toNat : Int), ?_, .int _ _⟩
          have hi2 : i < l.length := by have := (List.getElem?_eq_some_iff.1 hb).1; omega
          have hl1 : (l.take off).length = off := by simp; omega
          have hci : i < cs.size := by omega
          simp only [Go.Sort.putCells, Array.getElem?_mapIdx, Array.getElem?_eq_getElem hci, Option.map_some, Option.some.injEq]
          by_cases c1 : i < off
          · rw [if_neg (by omega)]
            rw [List.append_assoc, List.getElem?_append_left (by omega), List.getElem?_take, if_pos c1] at hb
            have := at_ i b hb
            rw [Array.getElem?_eq_getElem hci] at this
            exact Option.some.inj this
          · by_cases c2 : i < off + n
            · rw [if_pos (by omega)]
              rw [List.getElem?_append_left (by simp; omega), List.getElem?_append_right (by omega), hl1] at hb
              have : dk[i - off]! = b := by
                rw [getElem!_pos _ (i - off) (by omega)]
                simpa [Array.getElem?_eq_getElem (show i - off < dk.size by omega)] using hb
              rw [this]
            · rw [if_neg (by omega)]
              rw [List.getElem?_append_right (by simp; omega)] at hb
              have e9 : off + n + (i - (l.take off ++ dk.toList).length) = i := by simp; omega
              rw [List.getElem?_drop, e9] at hb
              have := at_ i b hb
              rw [Array.getElem?_eq_getElem hci] at this
              exact Option.some.inj this)
      rw [hput]
      obtain ⟨k1, k2⟩ := key
      refine ⟨.ret (.tuple []), _, κ, ⟨rfl, dk.toList, e4, by simpa using e3, rfl⟩, .ret (.tuple rfl fun i d hd => by simp at hd), k1.of_heap rfl, k2.trans (Ev.of_heap rfl rfl rfl rfl)⟩
end Go.Proofs.YthpgepillaeldaaDoor.Zz
