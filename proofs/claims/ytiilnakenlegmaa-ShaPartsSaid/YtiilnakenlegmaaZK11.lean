/- The plain law: the document's digest is the program's. -/
import Derived.Test.YtiilnakenlegmaaZK10
namespace Go.Proofs.Ytiilnakenlegmaa.Zz
set_option linter.unusedVariables false
set_option linter.unusedSimpArgs false
set_option maxRecDepth 20000
def padL (n : Nat) : Nat := 135 - n % 136
def padP (s : List UInt8) (k : Nat) : List UInt8 := s ++ 6 :: List.replicate k 0
def padM (s : List UInt8) : List UInt8 := (padP s (padL s.length)).take ((padP s (padL s.length)).length - 1) ++ [(padP s (padL s.length)).getD ((padP s (padL s.length)).length - 1) 0 + 128]
def soakN (A : List W64) (M : List UInt8) (at' : Nat) (i : Nat) : List W64 := (List.range i).foldl (fun a k => soakB a k (M.getD (at' + k) 0)) A
def blkF (M : List UInt8) (q : Nat) : List W64 := (List.range q).foldl (fun A q => turnF (soakN A M (136 * q) 136) 24) zW
theorem soakN_succ (A : List W64) (M : List UInt8) (a i : Nat) : soakN A M a (i + 1) = soakB (soakN A M a i) i (M.getD (a + i) 0) := by unfold soakN; exact fold_succ _ _ _
theorem soakN_zero (A : List W64) (M : List UInt8) (a : Nat) : soakN A M a 0 = A := by unfold soakN; rw [List.range_zero, List.foldl_nil]
theorem blkF_succ (M : List UInt8) (q : Nat) : blkF M (q + 1) = turnF (soakN (blkF M q) M (136 * q) 136) 24 := by unfold blkF; exact fold_succ _ _ _
theorem blkF_zero (M : List UInt8) : blkF M 0 = zW := by unfold blkF; rw [List.range_zero, List.foldl_nil]
theorem len_soakN (A : List W64) (M : List UInt8) (a i : Nat) : (soakN A M a i).length = A.length := by
  induction i with
  | zero => rw [soakN_zero]
  | succ i ih => rw [soakN_succ, len_soakB, ih]
theorem len_blkF (M : List UInt8) (q : Nat) : (blkF M q).length = 25 := by
  induction q with
  | zero => rw [blkF_zero]; rfl
  | succ q ih => rw [blkF_succ, len_turnF, len_soakN, ih]
theorem writeS_app (s : List W64 × Nat) (a b : List UInt8) : writeS s (a ++ b) = writeS (writeS s a) b := by unfold writeS; exact List.foldl_append
theorem putS_lt {a : List W64} {n : Nat} {b : UInt8} (h : n + 1 ≠ 136) : putS (a, n) b = (soakB a n b, n + 1) := if_neg h
theorem putS_end {a : List W64} {b : UInt8} : putS (a, 135) b = (turnF (soakB a 135 b) 24, 0) := if_pos rfl
theorem write_lt (A : List W64) (M : List UInt8) (at' : Nat) : ∀ i, i ≤ 135 → at' + i ≤ M.length → writeS (A, 0) ((M.drop at').take i) = (soakN A M at' i, i)
  | 0, _, _ => by rw [soakN_zero]; rfl
  | i + 1, h1, h2 => by
    rw [writeS_take (by simp; omega), write_lt A M at' i (by omega) (by omega), putS_lt (by omega), soakN_succ]
    have e : (M.drop at').getD i 0 = M.getD (at' + i) 0 := by simp
    rw [e]
theorem write_blk (A : List W64) (M : List UInt8) (at' : Nat) (h : at' + 136 ≤ M.length) : writeS (A, 0) ((M.drop at').take 136) = (turnF (soakN A M at' 136) 24, 0) := by
  have e := writeS_take (s := (A, 0)) (l := M.drop at') (i := 135) (by simp; omega)
  have e2 : (M.drop at').getD 135 0 = M.getD (at' + 135) 0 := by simp
  rw [write_lt A M at' 135 (by omega) (by omega), putS_end, e2] at e
  have e3 := soakN_succ A M at' 135
  generalize soakN A M at' 136 = B at *
  rw [e, ← e3]
theorem write_all (M : List UInt8) : ∀ q, 136 * q ≤ M.length → writeS (zW, 0) (M.take (136 * q)) = (blkF M q, 0)
  | 0, _ => by rw [blkF_zero]; rfl
  | q + 1, h => by
    have e : M.take (136 * (q + 1)) = M.take (136 * q) ++ (M.drop (136 * q)).take 136 := by
      have : 136 * (q + 1) = 136 * q + 136 := by omega
      rw [this, List.take_add]
    rw [e, writeS_app, write_all M q (by omega), write_blk _ _ _ (by omega), blkF_succ]
theorem putS_at {s : List W64 × Nat} {b : UInt8} (h : s.2 < 136) : (putS s b).2 = (s.2 + 1) % 136 := by
  unfold putS
  split
  · rename_i e
    rw [e]
  · show s.2 + 1 = _
    omega
theorem writeS_at : ∀ (l : List UInt8) (s : List W64 × Nat), s.2 < 136 → (writeS s l).2 = (s.2 + l.length) % 136
  | [], s, h => by show s.2 = _; simp; omega
  | b :: l, s, h => by
    have h1 := putS_at (b := b) h
    have e : writeS s (b :: l) = writeS (putS s b) l := rfl
    rw [e, writeS_at l _ (by rw [h1]; omega), h1, List.length_cons]
    omega
theorem soakB_zero (a : List W64) (j : Nat) : soakB a j 0 = a := by
  have e : byW 0 j = 0 := by
    show (BitVec.ofNat 64 0) <<< (j % 8 * 8) = 0
    exact BitVec.zero_shiftLeft _
  unfold soakB
  rw [e]
  have : a.getD (j / 8) 0 ^^^ (0 : W64) = a.getD (j / 8) 0 := BitVec.xor_zero
  rw [this]
  by_cases h : j / 8 < a.length
  · have : a.getD (j / 8) 0 = a[j / 8] := by simp [h]
    rw [this, List.set_getElem_self]
  · rw [List.set_eq_of_length_le (by omega)]
theorem write_zeros (a : List W64) : ∀ (k n : Nat), n + k ≤ 135 → writeS (a, n) (List.replicate k 0) = (a, n + k)
  | 0, n, _ => rfl
  | k + 1, n, h => by
    have e : writeS (a, n) (List.replicate (k + 1) 0) = writeS (putS (a, n) 0) (List.replicate k 0) := rfl
    rw [e, putS_lt (by omega), soakB_zero, write_zeros a k (n + 1) (by omega)]
    congr 1
    omega
theorem soak128 (a : List W64) : soakB a 135 128 = endS a := by
  have e : byW 128 135 = 9223372036854775808 := by decide
  unfold soakB endS
  rw [e]
theorem soak134 (a : List W64) (h : a.length = 25) : soakB a 135 134 = endS (soakB a 135 6) := by
  have e : byW 134 135 = byW 6 135 ^^^ 9223372036854775808 := by decide
  unfold soakB endS
  rw [e]
  have e2 : 135 / 8 = 16 := rfl
  rw [e2, List.set_set]
  have e3 : (a.set 16 (a.getD 16 0 ^^^ byW 6 135)).getD 16 0 = a.getD 16 0 ^^^ byW 6 135 := by simp [h]
  rw [e3, BitVec.xor_assoc]
theorem len_padP (s : List UInt8) (k : Nat) : (padP s k).length = s.length + 1 + k := by simp [padP]; omega
theorem len_padM (s : List UInt8) : (padM s).length = s.length + 1 + padL s.length := by
  simp only [padM, List.length_append, List.length_take, List.length_cons, List.length_nil, len_padP]
  omega
theorem padM_write (s : List UInt8) : writeS (zW, 0) (padM s) = (turnF (endS (soakB (writeS (zW, 0) s).1 (writeS (zW, 0) s).2 6)) 24, 0) := by
  have h1 := (writeS_ok (l := s) zW_ok.1 zW_ok.2)
  have h2 := writeS_at s (zW, 0) (by decide)
  have h3 : ((zW, 0) : List W64 × Nat).2 + s.length = s.length := Nat.zero_add _
  rw [h3] at h2
  by_cases c : s.length % 136 = 135
  · have e : padM s = s ++ [134] := by
      have p0 : padL s.length = 0 := by unfold padL; omega
      have pp : padP s 0 = s ++ [6] := rfl
      unfold padM
      rw [p0, pp]
      simp
    rw [e, writeS_app]
    generalize writeS (zW, 0) s = S at *
    obtain ⟨a, n⟩ := S
    simp only at h1 h2
    rw [c] at h2
    subst h2
    show putS (a, 135) 134 = _
    rw [putS_end, soak134 a h1.1]
  · have e : padM s = s ++ ([6] ++ (List.replicate (padL s.length - 1) 0 ++ [128])) := by
      obtain ⟨p, hp⟩ : ∃ p, padL s.length = p + 1 := ⟨padL s.length - 1, by unfold padL; omega⟩
      unfold padM
      rw [hp]
      have e1 : padP s (p + 1) = (s ++ ([6] ++ List.replicate p 0)) ++ [0] := by
        unfold padP
        rw [List.replicate_succ']
        simp
      rw [e1]
      have e2 : p + 1 - 1 = p := rfl
      rw [e2]
      generalize hX : s ++ ([6] ++ List.replicate p 0) = X
      have e3 : s ++ ([6] ++ (List.replicate p 0 ++ [128])) = X ++ [128] := by rw [← hX]; simp
      rw [e3]
      simp
    have hp : s.length % 136 + 1 + (padL s.length - 1) = 135 := by unfold padL; omega
    generalize padL s.length - 1 = p at *
    rw [e, writeS_app, writeS_app, writeS_app]
    generalize writeS (zW, 0) s = S at *
    obtain ⟨a, n⟩ := S
    simp only at h1 h2
    have e1 : writeS (a, n) [6] = (soakB a n 6, n + 1) := putS_lt (by omega)
    rw [e1, write_zeros _ _ _ (by omega)]
    have e4 : n + 1 + p = 135 := by omega
    rw [e4]
    generalize soakB a n 6 = b
    have e5 : writeS (b, 135) [128] = putS (b, 135) 128 := rfl
    rw [e5, putS_end, soak128]
theorem padM_mod (s : List UInt8) : (padM s).length = 136 * ((padM s).length / 136) := by
  have := len_padM s
  have h : padL s.length = 135 - s.length % 136 := rfl
  omega
theorem ref_law (s : List UInt8) : outS (blkF (padM s) ((padM s).length / 136)) = shaB s := by
  have h := write_all (padM s) ((padM s).length / 136) (by omega)
  rw [← padM_mod, List.take_length, padM_write] at h
  have h2 : blkF (padM s) ((padM s).length / 136) = turnF (endS (soakB (writeS (zW, 0) s).1 (writeS (zW, 0) s).2 6)) 24 := by
    generalize turnF (endS (soakB (writeS (zW, 0) s).1 (writeS (zW, 0) s).2 6)) 24 = T at *
    generalize blkF (padM s) ((padM s).length / 136) = B at *
    injection h with h1 h2
    exact h1.symm
  rw [h2]
  rfl
end Go.Proofs.Ytiilnakenlegmaa.Zz
