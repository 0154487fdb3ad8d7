/- Contracts: lex: all words of a text. -/
import Derived.Test.YtpagdhbmbnoddaaGreatDoorZL3
import Derived.Test.YtpagdhbmbnoddaaGreatDoorZL1
import Derived.Shelf.Strings.Builder1
import Derived.Shelf.Strings.Builder2
import Derived.Shelf.Strings.OnBuilder
import Derived.Shelf.Strings.Trim
import Derived.Shelf.Small.Utf8
import Derived.Shelf.Small.Strs
import Derived.Shelf.Strings.BuilderF
import Derived.Shelf.Strings.BuilderK
import Derived.Shelf.Strings.Builder2Cap
import Derived.Shelf.Strconv.Itoa0
import Derived.Shelf.Strconv.Itoa1
import Derived.Shelf.LaysM
import Derived.Shelf.Strconv.Itoa2
import Derived.Shelf.Strconv.Itoa3
import Derived.Shelf.Strconv.Itoa4
import Derived.Shelf.Strconv.ParseIntEmpty
import Derived.Shelf.Strconv.Clone
import Derived.Shelf.Strconv.SyntaxError
import Derived.Shelf.LaysC
import Derived.Shelf.Strconv.ToError
import Derived.Shelf.Strconv.Lower
import Derived.Shelf.Strconv.ParseUint10
import Derived.Shelf.Strconv.ParseUint10Empty
import Derived.Shelf.Strconv.ParseUint10Any
import Derived.Shelf.Strconv.ParseInt10
import Derived.Shelf.Strconv.RangeError
import Derived.Shelf.Strconv.ToErrorRange
import Derived.Shelf.Strconv.ParseUintEmpty
import Derived.Shelf.Strconv.ParseUint10b64
import Derived.Shelf.Strconv.ParseUint10b32
import Derived.Shelf.Strconv.ParseUint10b16
import Derived.Shelf.Strconv.ParseUint10b8
import Derived.Shelf.Strconv.ParseUint10At
import Derived.Shelf.Strconv.ParseInt10At64
import Derived.Shelf.Strconv.ParseInt10At32
import Derived.Shelf.Strconv.ParseInt10At16
import Derived.Shelf.Strconv.ParseInt10At8
import Derived.Shelf.Strconv.ParseInt10All
import Derived.Shelf.Strconv.ParseIntPublic10
import Derived.Shelf.Strings.Search1
import Derived.Shelf.Strings.Search2
import Derived.Shelf.Strings.Cut
import Derived.Shelf.Strings.Shaped
import Derived.Shelf.Strings.Prefix
import Derived.Shelf.Unicode.Decode
import Derived.Shelf.Strings.Runes
import Derived.Shelf.Strings.AsciiSet
import Derived.Shelf.Unicode.DecodeSlow
import Derived.Shelf.Unicode.DecodeAny
import Derived.Shelf.Unicode.DecodeLast
import Derived.Shelf.Slices.Turned
import Derived.Test.YtpagdhbmbnoddaaGreatDoorProg
set_option linter.unnecessarySimpa false
namespace Go.Proofs.YtpagdhbmbnoddaaGreatDoor.Zz
set_option linter.unusedVariables false
set_option linter.unusedSimpArgs false
set_option maxRecDepth 20000


abbrev Tok := Int × List UInt8 × Int
def encT (l : List Tok) : List (List D) := l.map fun t => tokD t.1 t.2.1 t.2.2
theorem len_encT {l : List Tok} : (encT l).length = l.length := by simp [encT]
theorem encT_app {l : List Tok} {k : Int} {s : List UInt8} {a : Int} : encT l ++ [[.int .i64 k, .str s, .int .i64 a]] = encT (l ++ [(k, s, a)]) := by simp [encT, tokD]
theorem encT_nil : encT [] = [] := rfl
theorem encT_ne {l : List Tok} : l ≠ [] → encT l ≠ [] := by cases l <;> simp [encT]

/-- All words from a place on; else where one may not be. -/
def toksN : Nat → Nat → List UInt8 → List Tok → List Tok × Nat × Int
  | 0, _, _, out => (out, 0, 0)
  | n + 1, p, l, out =>
    if l = [] then (out ++ [(0, [], (p : Int))], 0, 0)
    else if (oneL l).2.2 = false then ([], p, 90)
    else toksN n (p + (oneL l).2.1.length + blankL (l.drop (oneL l).2.1.length)) (l.drop ((oneL l).2.1.length + blankL (l.drop (oneL l).2.1.length))) (out ++ [((oneL l).1, (oneL l).2.1, (p : Int))])
def tokens (s : List UInt8) : List Tok × Nat × Int := if 4096 < s.length then ([], 4096, 3) else toksN (s.length + 1) (blankL s) (s.drop (blankL s)) []

theorem firstPre_some : ∀ {l : List UInt8} {xs : List (List UInt8)} {x : List UInt8}, firstPre l xs = some x → x ∈ xs ∧ pre l x = true
  | l, [], x, h => by cases h
  | l, y :: xs, x, h => by
    simp only [firstPre] at h
    split at h
    · rename_i hp; cases h; exact ⟨by simp, hp⟩
    · have := firstPre_some h
      exact ⟨by simp [this.1], this.2⟩
theorem spn_pos {p : Int → Bool} {l : List UInt8} (hl : 0 < l.length) (h : p ((l.getD 0 0).toNat : Int) = true) : 0 < spn p l := by
  cases l with
  | nil => simp at hl
  | cons c l => rw [spn_cons, if_pos (by simpa using h)]; omega
theorem oneL_ok {l : List UInt8} (hl : 0 < l.length) (h : (oneL l).2.2 = true) : 1 ≤ (oneL l).2.1.length ∧ (oneL l).2.1.length ≤ l.length ∧ (oneL l).2.1 = l.take (oneL l).2.1.length ∧ (oneL l).1 ≠ 0 := by
  have tk : ∀ k : Nat, k ≤ l.length → 1 ≤ k → 1 ≤ (l.take k).length ∧ (l.take k).length ≤ l.length ∧ l.take k = l.take (l.take k).length := fun k h1 h2 => by
    have e : (l.take k).length = k := by simp; omega
    rw [e]; exact ⟨h2, h1, rfl⟩
  have t3 : ∀ {k : Nat} {x : Int}, k ≤ l.length → 1 ≤ k → x ≠ 0 → 1 ≤ (l.take k).length ∧ (l.take k).length ≤ l.length ∧ l.take k = l.take (l.take k).length ∧ x ≠ 0 := fun h1 h2 h3 => ⟨(tk _ h1 h2).1, (tk _ h1 h2).2.1, (tk _ h1 h2).2.2, h3⟩
  unfold oneL at h ⊢
  split
  · rename_i hd
    rw [if_pos hd] at h
    have h1 := spn_pos hl hd
    have h2 := spn_le isDigit l
    have h3 := spn_le isDigit (l.drop (spn isDigit l + 1))
    rw [List.length_drop] at h3
    unfold numL at h ⊢
    split
    · rename_i hc
      simp only [Bool.and_eq_true, decide_eq_true_eq] at hc
      exact t3 (by omega) (by omega) (by simp)
    · exact t3 h2 h1 (by simp)
  · rename_i hd
    rw [if_neg hd] at h
    split
    · rename_i ht
      rw [if_pos ht] at h
      have h1 := spn_pos (p := nameP) hl (by simp only [nameP, ht, Bool.true_or])
      have h2 := spn_le nameP l
      split
      · exact t3 h2 h1 (by simp)
      · exact t3 h2 h1 (by simp)
    · rename_i ht
      rw [if_neg ht] at h
      cases hf : firstPre l signs with
      | none => rw [hf] at h; cases h
      | some x =>
        obtain ⟨m, hp⟩ := firstPre_some hf
        simp only [pre, beq_iff_eq] at hp
        have hx : 1 ≤ x.length := by
          revert m; unfold signs; intro m
          simp only [List.mem_cons, List.not_mem_nil, or_false] at m
          rcases m with rfl | rfl | rfl | rfl | rfl | rfl | rfl | rfl | rfl | rfl | rfl | rfl | rfl | rfl | rfl | rfl | rfl | rfl | rfl | rfl | rfl | rfl <;> decide
        refine ⟨hx, ?_, hp.symm, by simp⟩
        have := congrArg List.length hp
        rw [List.length_take] at this
        simp only
        omega
set_option maxHeartbeats 1000000 in
theorem tokens_c (s : List UInt8) : PCall Tryz.prog 16 [.str s] (.tuple [.sl (encT (tokens s).1), .int .i64 (tokens s).2.1, .int .i64 (tokens s).2.2]) := by
  refine PCall.run tb51_ok st23 (by simp) fun E => ?_
  unfold tokens
  by_cases c0 : 4096 < s.length
  · have g1 : ((s.length : Int) > 4096) = True := by simp; omega
    simp only [c0, s23, g1, encT_nil, decide_true, tb51_e, zz, zzN, zzF, zzD, zzM, cond_true, cond_false, seval]
    trace_state
  · have h2 : s.length ≤ 1000000 := by omega
    have g1 : ((s.length : Int) > 4096) = False := by simp; omega
    have g2 : (s.length ≤ 1000000) = True := by simp; omega
    have g2' : (s.length ≤ 100000) = True := by simp; omega
    have g3 : (0 ≤ (s.length : Int)) = True := by simp
    simp only [c0, s23, g1, g2, g3, q50, decide_false, tb51_e, zz, zzN, zzF, zzD, zzM, cond_true, cond_false, seval]
    intro _
    generalize hR : toksN (s.length + 1) (blankL s) (s.drop (blankL s)) [] = R
    refine run_loop (X := Nat × List Tok × Nat × Nat) (fun x => [(0, .str s), (5, ownD x.2.2.1 x.2.1.length), (6, .int .i64 x.1)])
      (fun x => ownH .emp x.2.2.1 3 (encT x.2.1)) (fun x => x.2.2.2)
      (fun x => x.1 ≤ s.length ∧ x.2.1.length ≤ x.1 ∧ s.length < x.1 + x.2.2.2 ∧ toksN x.2.2.2 x.1 (s.drop x.1) x.2.1 = R) (blankL s, [], 0, s.length + 1) ⟨blankL_le _, by simp, by simp; omega, hR⟩ ?_ ?_ ?_
    · simp only [ownD, zz, zzN, zzF, zzD, zzM, cond_true, cond_false, seval]
    · exact AHeap.sub_refl _
    · rintro ⟨p, out, r, n⟩ Q ⟨i1, i2, i3, i4⟩ hQ
      simp only at i1 i2 i3 i4 hQ ⊢
      obtain ⟨n, rfl⟩ : ∃ n', n = n' + 1 := ⟨n - 1, by omega⟩
      simp only [toksN] at i4
      by_cases c1 : p < s.length
      · have hne : s.drop p ≠ [] := by simp; omega
        rw [if_neg hne] at i4
        have g4 : ((p : Int) < (s.length : Int)) = True := by simp; omega
        have g5 : (0 ≤ (p : Int)) = True := by simp
        cases c2 : (oneL (s.drop p)).2.2 with
        | false =>
          rw [if_pos c2] at i4
          simp only [g2', g4, g5, c2, oneD, tokD, q51, q50, ← i4, encT_nil, decide_true, tb51_e, zz, zzN, zzF, zzD, zzM, cond_true, cond_false, seval]
        | true =>
          rw [if_neg (by rw [c2]; exact Bool.noConfusion)] at i4
          obtain ⟨b1, b2, b3, b4⟩ := oneL_ok (by simp; omega) c2
          have lb := blankL_le ((s.drop p).drop (oneL (s.drop p)).2.1.length)
          have eb : s.drop (p + (oneL (s.drop p)).2.1.length) = (s.drop p).drop (oneL (s.drop p)).2.1.length := by rw [List.drop_drop]
          rcases hone : oneL (s.drop p) with ⟨kd, tx, ok⟩
          simp only [hone] at i4 c2 b1 b2 b3 b4 lb eb
          subst c2
          obtain ⟨bl, hbl⟩ : ∃ bl, bl = blankL ((s.drop p).drop tx.length) := ⟨_, rfl⟩
          rw [← hbl] at i4 lb
          simp only [List.length_drop] at lb b2
          have w1 : IntKind.i64.wrap ((p : Int) + (tx.length : Int)) = ((p + tx.length : Nat) : Int) := wrap_add (by omega)
          have w2 : IntKind.i64.wrap (((p + tx.length : Nat) : Int) + (bl : Int)) = ((p + tx.length + bl : Nat) : Int) := wrap_add (by omega)
          have g6 : (((p + tx.length : Nat) : Int) ≤ (s.length : Int)) = True := by simp; omega
          have g7 : (0 ≤ ((p + tx.length : Nat) : Int)) = True := by simp; omega
          have ed : s.drop (p + tx.length + bl) = (s.drop p).drop (tx.length + bl) := by rw [List.drop_drop, Nat.add_assoc]
          by_cases ho : out = []
          · subst ho
            simp only [g2, g2', g4, g5, b4, hone, encT_nil, ownD_zero, ownH_nil, oneD, tokD, q51, q50, List.take_succ_cons, List.take_zero, decide_true, tb51_e, zz, zzN, zzF, zzD, zzM, cond_true, cond_false, seval]
            intro _ id id2 f1 f2
            simp only [g2, g2', g4, g5, g6, g7, b4, hone, f1, f2, w1, w2, eb, ← hbl, encT_nil, ownD_zero, ownH_nil, oneD, tokD, q51, q50, List.take_succ_cons, List.take_zero, decide_true, tb51_e, zz, zzN, zzF, zzD, zzM, cond_true, cond_false, seval]
            intro _
            refine hQ (p + tx.length + bl, [(kd, tx, (p : Int))], id2, n) _ _ ⟨by simp only; omega, by simp only [List.length_singleton]; omega, by simp only; omega, by simp only [ed]; exact i4⟩ ?_ ?_ (Nat.lt_succ_self n)
            · simp only [ownD, zz, zzN, zzF, zzD, zzM, cond_true, cond_false, seval]
            · simp only [ownH, encT, tokD, zz, zzN, zzF, zzD, zzM, cond_true, cond_false, seval]
              exact AHeap.sub_X (by repeat' first | with_reducible exact AHeap.subX_refl | with_reducible exact AHeap.subX_emp | refine AHeap.subX_l (by simp [f1, f2]) ?_ | refine AHeap.subX_r (by simp [f1, f2]) ?_)
          · have ho2 := encT_ne ho
            have ho3 : out.length ≠ 0 := fun h => ho (List.length_eq_zero_iff.1 h)
            simp only [g2, g2', g4, g5, b4, hone, ownD_pos ho3, ownH_pos ho2, len_encT, oneD, tokD, q51, q50, List.take_succ_cons, List.take_zero, decide_true, tb51_e, zz, zzN, zzF, zzD, zzM, cond_true, cond_false, seval]
            intro _ id f1 f2
            have h3 : (∀ y ∈ [[D.int IntKind.i64 kd, D.str tx, D.int IntKind.i64 (p : Int)]], y.length = 3 ∧ y.all cellOk = true) := by simp [cellOk]
            have a1 : (encT out).length = out.length := len_encT
            simp only [g2, g2', g4, g5, g6, g7, b4, hone, f1, f2, w1, w2, eb, ← hbl, a1, oneD, tokD, q51, q50, List.take_succ_cons, List.take_zero, decide_true, tb51_e, zz, zzN, zzF, zzD, zzM, cond_true, cond_false, seval]
            refine ⟨by omega, fun _ => ?_⟩
            have ho5 : out.length + 1 ≠ 0 := by simp
            refine hQ (p + tx.length + bl, out ++ [(kd, tx, (p : Int))], r, n) _ _ ⟨by simp only; omega, by simp only [List.length_append, List.length_singleton]; omega, by simp only; omega, by simp only [ed]; exact i4⟩ ?_ ?_ (Nat.lt_succ_self n)
            · have e9 : out.length + 2 + 1 = out.length + 1 + 2 := by omega
              simp only [ownD_pos ho5, List.length_append, e9, zz, zzN, zzF, zzD, zzM, cond_true, cond_false, seval]
            · have e9 : out.length + 1 + 2 = out.length + 2 + 1 := by omega
              rw [ownH_pos (encT_ne (List.append_ne_nil_of_right_ne_nil out (List.cons_ne_nil _ _))), len_encT, ← encT_app, List.length_append, List.length_singleton, e9]
              exact AHeap.sub_X (by repeat' first | with_reducible exact AHeap.subX_refl | with_reducible exact AHeap.subX_emp | refine AHeap.subX_l (by simp [f1, f2]) ?_ | refine AHeap.subX_r (by simp [f1, f2]) ?_)
      · have g4 : ((p : Int) < (s.length : Int)) = False := by simp; omega
        have e : s.drop p = [] := List.drop_of_length_le (by omega)
        have hp : p = s.length := by omega
        subst hp
        rw [if_pos e] at i4
        by_cases ho : out = []
        · subst ho
          simp only [g4, ← i4, encT_nil, ownD_zero, ownH_nil, List.take_succ_cons, List.take_zero, decide_false, tb51_e, zz, zzN, zzF, zzD, zzM, cond_true, cond_false, seval]
          exact fun _ _ => rfl
        · have ho2 := encT_ne ho
          have ho3 : out.length ≠ 0 := fun h => ho (List.length_eq_zero_iff.1 h)
          simp only [g4, ← i4, ownD_pos ho3, ownH_pos ho2, len_encT, List.take_succ_cons, List.take_zero, decide_false, tb51_e, zz, zzN, zzF, zzD, zzM, cond_true, cond_false, seval]
          have a2 : (encT (out ++ [(0, [], (s.length : Int))])).take (out.length + 1) = encT (out ++ [(0, [], (s.length : Int))]) := List.take_of_length_le (by rw [len_encT]; simp)
          have a3 : out.length + 1 ≤ (encT (out ++ [(0, [], (s.length : Int))])).length := by rw [len_encT]; simp
          rw [encT_app, a2, if_pos a3]
          exact fun _ _ => ⟨by omega, rfl⟩
end Go.Proofs.YtpagdhbmbnoddaaGreatDoor.Zz
/- Trees: their data. -/
namespace Go.Proofs.YtpagdhbmbnoddaaGreatDoor.Zz
set_option linter.unusedVariables false
set_option linter.unusedSimpArgs false
/-- A node: its kind, its type, its text, its number, its kids. -/
inductive Nd where
  | mk (k t : Int) (s : List UInt8) (n : Int) (l : List Nd)
mutual
def Nd.enc : Nd → List D
  | .mk k t s n l => [.int .i64 k, .int .i64 t, .str s, .int .i64 n, .sl (Nd.encs l)]
def Nd.encs : List Nd → List (List D)
  | [] => []
  | x :: l => Nd.enc x :: Nd.encs l
end
mutual
def Nd.cnt : Nd → Nat
  | .mk k t s n l => 1 + Nd.cnts l
def Nd.cnts : List Nd → Nat
  | [] => 0
  | x :: l => Nd.cnt x + Nd.cnts l
end
theorem enc_mk (k t : Int) (s : List UInt8) (n : Int) (l : List Nd) : Nd.enc (.mk k t s n l) = [.int .i64 k, .int .i64 t, .str s, .int .i64 n, .sl (Nd.encs l)] := by rw [Nd.enc]
theorem encs_nil : Nd.encs [] = [] := by rw [Nd.encs]
theorem encs_cons (x : Nd) (l : List Nd) : Nd.encs (x :: l) = Nd.enc x :: Nd.encs l := by rw [Nd.encs]
theorem encs_map : ∀ l : List Nd, Nd.encs l = l.map Nd.enc
  | [] => by rw [encs_nil]; rfl
  | x :: l => by rw [encs_cons, encs_map l]; rfl
theorem cnt_mk (k t : Int) (s : List UInt8) (n : Int) (l : List Nd) : Nd.cnt (.mk k t s n l) = 1 + Nd.cnts l := by rw [Nd.cnt]
theorem cnts_nil : Nd.cnts [] = 0 := by rw [Nd.cnts]
theorem cnts_cons (x : Nd) (l : List Nd) : Nd.cnts (x :: l) = Nd.cnt x + Nd.cnts l := by rw [Nd.cnts]
theorem cnt_pos (x : Nd) : 0 < x.cnt := by cases x; rw [cnt_mk]; omega
theorem cnts_mem : ∀ {l : List Nd} {x : Nd}, x ∈ l → x.cnt ≤ Nd.cnts l
  | y :: l, x, h => by
    rw [cnts_cons]
    rcases List.mem_cons.1 h with e | e
    · rw [e]; omega
    · have := cnts_mem e; omega
theorem cnt_kid {k t : Int} {s : List UInt8} {n : Int} {l : List Nd} {x : Nd} (h : x ∈ l) : x.cnt < Nd.cnt (.mk k t s n l) := by
  rw [cnt_mk]
  have := cnts_mem h
  omega
theorem cnts_app (l r : List Nd) : Nd.cnts (l ++ r) = Nd.cnts l + Nd.cnts r := by
  induction l with
  | nil => rw [List.nil_append, cnts_nil]; omega
  | cons x l ih => rw [List.cons_append, cnts_cons, cnts_cons, ih]; omega
theorem len_enc (x : Nd) : x.enc.length = 5 := by cases x; rw [enc_mk]; rfl
theorem enc_ok (x : Nd) : x.enc.all cellOk = true := by cases x; rw [enc_mk]; rfl
theorem enc_unnil (x : Nd) : x.enc.map unnil = x.enc := by cases x; rw [enc_mk]; rfl
theorem len_encs (l : List Nd) : (Nd.encs l).length = l.length := by rw [encs_map, List.length_map]
theorem encs_get {l : List Nd} {i : Nat} {x : Nd} (h : l[i]? = some x) : (Nd.encs l)[i]? = some x.enc := by rw [encs_map, List.getElem?_map, h]; rfl
theorem encs_app (l r : List Nd) : Nd.encs (l ++ r) = Nd.encs l ++ Nd.encs r := by rw [encs_map, encs_map, encs_map, List.map_append]
theorem encs_snoc (l : List Nd) (x : Nd) : Nd.encs l ++ [x.enc] = Nd.encs (l ++ [x]) := by rw [encs_app, encs_cons, encs_nil]
theorem encs_ne {l : List Nd} : l ≠ [] → Nd.encs l ≠ [] := by
  intro h e
  apply h
  have := congrArg List.length e
  rw [len_encs] at this
  simpa using this
/-- Trees are by their size: what holds of all smaller ones holds of each. -/
theorem Nd.ind {P : Nd → Prop} (h : ∀ x, (∀ y : Nd, y.cnt < x.cnt → P y) → P x) (x : Nd) : P x := by
  have key : ∀ n, ∀ x : Nd, x.cnt ≤ n → P x := by
    intro n
    induction n with
    | zero => intro x hx; have := cnt_pos x; omega
    | succ n ih => intro x hx; exact h x fun y hy => ih y (by omega)
  exact key _ x (Nat.le_refl _)
theorem map_inj_of {α β : Type} {f : α → β} : ∀ {l r : List α}, (∀ x ∈ l, ∀ y, f x = f y → x = y) → l.map f = r.map f → l = r
  | [], [], _, _ => rfl
  | [], _ :: _, _, h => by cases h
  | _ :: _, [], _, h => by cases h
  | x :: l, y :: r, hf, h => by
    simp only [List.map_cons, List.cons.injEq] at h
    rw [hf x (by simp) y h.1, map_inj_of (fun z hz => hf z (by simp [hz])) h.2]
theorem enc_inj : ∀ x y : Nd, x.enc = y.enc → x = y := by
  intro x
  induction x using Nd.ind with
  | h x ih =>
    intro y e
    obtain ⟨k, t, s, n, l⟩ := x
    obtain ⟨k', t', s', n', l'⟩ := y
    rw [enc_mk, enc_mk] at e
    simp only [List.cons.injEq, D.int.injEq, D.str.injEq, D.sl.injEq, true_and, and_true] at e
    obtain ⟨rfl, rfl, rfl, rfl, e⟩ := e
    rw [encs_map, encs_map] at e
    rw [map_inj_of (fun x hx y => ih x (cnt_kid hx) y) e]
open Classical in
noncomputable def decN (ds : List D) : Option Nd := if h : ∃ x : Nd, x.enc = ds then some (Classical.choose h) else none
theorem decN_enc (x : Nd) : decN x.enc = some x := by
  unfold decN
  rw [dif_pos ⟨x, rfl⟩]
  congr 1
  exact enc_inj _ _ (Classical.choose_spec (⟨x, rfl⟩ : ∃ y : Nd, y.enc = x.enc))
theorem decN_some {ds : List D} {x : Nd} (h : decN ds = some x) : ds = x.enc := by
  unfold decN at h
  split at h
  · rename_i hx
    cases h
    exact (Classical.choose_spec hx).symm
  · cases h
theorem encs_inj {l r : List Nd} (h : Nd.encs l = Nd.encs r) : l = r := by
  rw [encs_map, encs_map] at h
  exact map_inj_of (fun x _ y => enc_inj x y) h
open Classical in
noncomputable def decNs (ds : List (List D)) : Option (List Nd) := if h : ∃ x : List Nd, Nd.encs x = ds then some (Classical.choose h) else none
theorem decNs_enc (x : List Nd) : decNs (Nd.encs x) = some x := by
  unfold decNs
  rw [dif_pos ⟨x, rfl⟩]
  congr 1
  exact encs_inj (Classical.choose_spec (⟨x, rfl⟩ : ∃ y : List Nd, Nd.encs y = Nd.encs x))
theorem decNs_some {ds : List (List D)} {x : List Nd} (h : decNs ds = some x) : ds = Nd.encs x := by
  unfold decNs at h
  split at h
  · rename_i hx
    cases h
    exact (Classical.choose_spec hx).symm
  · cases h
/-- A kid of a slice of kids. -/
theorem askE_encs {K : D → AHeap → Prop} {h : AHeap} {l : List Nd} {i : Nat} {x : Nd} (e : l[i]? = some x) : askE 5 K h (Nd.encs l) (i : Int) = K (.eptr x.enc 0) h := by
  have h1 := (List.getElem?_eq_some_iff.1 e).1
  have h2 : (0 ≤ (i : Int) ∧ (i : Int) < ((Nd.encs l).length : Int)) := by rw [len_encs]; omega
  simp only [askE, h2, Int.toNat_natCast, encs_get e, Option.some.injEq]
  apply propext
  constructor
  · intro k; exact (k.2 _ rfl).2
  · intro k; exact ⟨by simp, fun y hy => by rw [← hy]; exact ⟨len_enc x, k⟩⟩
theorem part_enc (x : Nd) : partD x.enc 0 (some 5) = some (.agg x.enc) := by
  have := len_enc x
  simp only [partD, List.drop_zero]
  rw [if_pos (by omega), List.take_of_length_le (by omega)]
theorem ownH_f {h : AHeap} {r sz i : Nat} {xs : List (List D)} (hne : xs ≠ [] → r ≠ i) : (ownH h r sz xs).f i = h.f i := by
  unfold ownH
  split
  · rfl
  · rename_i h0
    rw [AHeap.set_f, if_neg (fun e => hne h0 e.symm)]
theorem ownH_r {h : AHeap} {r sz : Nat} {xs : List (List D)} (h0 : xs ≠ []) : (ownH h r sz xs).f r = some (.row sz (xs.length + 2) xs false) := by
  unfold ownH
  rw [if_neg h0, AHeap.set_f, if_pos rfl]
/-- One more element behind a slice that begins as nil. -/
theorem app_own {sz b r : Nat} {xs : List (List D)} {y : List D} {h : AHeap} {K : D → AHeap → Prop} (hr : xs ≠ [] → h.f r = some (.row sz (xs.length + 2) xs false)) (hy : y.length = sz ∧ y.all cellOk = true) (hb : 0 < b) (hn : (xs.length + 1) * b ≤ 140737488355328)
    (hk : ∀ r', (xs = [] → h.f r' = none) → (xs ≠ [] → r' = r) → K (ownD r' (xs.length + 1)) (h.set r' (.row sz (xs.length + 1 + 2) (xs ++ [y]) false))) : appK sz b (ownD r xs.length) h K (some [y]) := by
  by_cases h0 : xs = []
  · subst h0
    rw [List.length_nil, ownD_zero, app_nil]
    refine ⟨by simpa using hy, hb, by simp, by simpa using hn, fun _ id hid => ?_⟩
    have := hk id (fun _ => hid) (fun h => absurd rfl h)
    simpa [ownD] using this
  · have hl : xs.length ≠ 0 := fun h => h0 (List.length_eq_zero_iff.1 h)
    rw [ownD_pos hl, app_row, hr h0, appR_row]
    refine ⟨by simpa using hy, hb, rfl, rfl, rfl, rfl, by simpa using hn, ?_⟩
    have := hk r (fun h => absurd h h0) (fun _ => rfl)
    rw [ownD_pos (by omega)] at this
    have e : xs.length + 2 + [y].length = xs.length + 1 + 2 := by simp
    rw [e]
    exact this
end Go.Proofs.YtpagdhbmbnoddaaGreatDoor.Zz
/- Contracts of Go's library at this program, as the kit's tool lays them. -/
namespace Go.Proofs
open Go.Shelf
def Tryz.lays156_ren : Go.Shelf.Ren := ⟨fun | 156 => 47 | 165 => 69 | 166 => 70 | 169 => 71 | 240 => 95 | 241 => 96 | 276 => 121 | 277 => 122 | n => n, fun | 31 => 36 | 9 => 9 | 3 => 3 | 4 => 4 | 0 => 0 | 20 => 20 | 72 => 107 | 76 => 111 | 70 => 105 | 37 => 22 | 75 => 110 | 127 => 133 | 164 => 157 | 5 => 5 | 80 => 100 | n => n, fun | n => n⟩
theorem Tryz.lays156 : Go.Proofs.Lays.n156 Tryz.prog Tryz.lays156_ren := {
  mixed := by kernel_rfl
  f156 := Tryz.func47.trans (congrArg some (by kernel_rfl))
  f165 := Tryz.func69.trans (congrArg some (by kernel_rfl))
  f166 := Tryz.func70.trans (congrArg some (by kernel_rfl))
  f169 := Tryz.func71.trans (congrArg some (by kernel_rfl))
  f240 := Tryz.func95.trans (congrArg some (by kernel_rfl))
  f241 := Tryz.func96.trans (congrArg some (by kernel_rfl))
  f276 := Tryz.func121.trans (congrArg some (by kernel_rfl))
  f277 := Tryz.func122.trans (congrArg some (by kernel_rfl))
  t0 := Tryz.underlying0
  a0 := Tryz.isAgg0
  z0 := Tryz.sizeOf0
  v0 := Tryz.zeroValue0
  t3 := Tryz.underlying3
  a3 := Tryz.isAgg3
  z3 := Tryz.sizeOf3
  v3 := Tryz.zeroValue3
  t4 := Tryz.underlying4
  a4 := Tryz.isAgg4
  z4 := Tryz.sizeOf4
  v4 := Tryz.zeroValue4
  t9 := Tryz.underlying9
  a9 := Tryz.isAgg9
  z9 := Tryz.sizeOf9
  v9 := Tryz.zeroValue9
  t20 := Tryz.underlying20
  a20 := Tryz.isAgg20
  z20 := Tryz.sizeOf20
  v20 := Tryz.zeroValue20
  t31 := Tryz.underlying36
  a31 := Tryz.isAgg36
  z31 := Tryz.sizeOf36
  v31 := Tryz.zeroValue36
  t37 := Tryz.underlying22
  a37 := Tryz.isAgg22
  z37 := Tryz.sizeOf22
  v37 := Tryz.zeroValue22
  t70 := Tryz.underlying105
  a70 := Tryz.isAgg105
  z70 := Tryz.sizeOf105
  v70 := Tryz.zeroValue105
  t72 := Tryz.underlying107
  a72 := Tryz.isAgg107
  z72 := Tryz.sizeOf107
  v72 := Tryz.zeroValue107
  t75 := Tryz.underlying110
  a75 := Tryz.isAgg110
  z75 := Tryz.sizeOf110
  v75 := Tryz.zeroValue110
  t76 := Tryz.underlying111
  a76 := Tryz.isAgg111
  z76 := Tryz.sizeOf111
  v76 := Tryz.zeroValue111
  t127 := Tryz.underlying133
  a127 := Tryz.isAgg133
  z127 := Tryz.sizeOf133
  v127 := Tryz.zeroValue133
  t164 := Tryz.underlying157
  a164 := Tryz.isAgg157
  z164 := Tryz.sizeOf157
  v164 := Tryz.zeroValue157 }
theorem Tryz.Builder_Extra_156 : Builder.Extra Tryz.prog Tryz.lays156_ren := {
  sizeBuilder := by kernel_rfl
  liesBuilder := by kernel_rfl
  t5 := Tryz.underlying5
  a5 := Tryz.isAgg5
  z5 := Tryz.sizeOf5
  v5 := Tryz.zeroValue5
  infoByte := by kernel_rfl
  cellsByte := by kernel_rfl
  sizeByte := by kernel_rfl
  neB5 := by decide }
open Go.RowKit in
theorem Tryz.strings_Join_none (a : Option Addr) (c : Nat) (sep : ByteArray) (w : World) :
    Calls Tryz.prog 47 #[.slice a 0 c, .string sep] w fun e w' => e = .returned (.string ⟨#[]⟩) ∧ w' = w := Any.strings_Join_none Tryz.lays156 Tryz.Builder_Extra_156 a c sep w
open Go.RowKit in
theorem Tryz.strings_Join (bk o c : Nat) (xs : List ByteArray) (sep : ByteArray) (w : World) (hcells : ∀ (j : Nat) x, xs[j]? = some x → w.cell? ⟨bk, o + j, none⟩ = some (.string x)) (hbk : bk < w.heap.size) (hN : xs.length ≤ 140737488355328) (hcap : xs.length ≤ c) (hlen : (Lib.join (xs.map (·.data.toList)) sep.data.toList).length ≤ 140737488355328) :
    Calls Tryz.prog 47 #[.slice (some ⟨bk, o, none⟩) xs.length c, .string sep] w fun e w' => e = .returned (.string ⟨(Lib.join (xs.map (·.data.toList)) sep.data.toList).toArray⟩) ∧ Below w.heap.size w w' := Any.strings_Join Tryz.lays156 Tryz.Builder_Extra_156 bk o c xs sep w hcells hbk hN hcap hlen
def Tryz.lays161_ren : Go.Shelf.Ren := ⟨fun | 161 => 89 | 231 => 109 | 227 => 110 | 233 => 111 | 235 => 112 | 228 => 134 | 197 => 135 | 151 => 136 | 260 => 149 | 152 => 150 | 137 => 159 | 119 => 160 | 224 => 147 | 225 => 146 | 217 => 145 | 266 => 157 | n => n, fun | 9 => 9 | 4 => 4 | 3 => 3 | 5 => 5 | 117 => 145 | 116 => 144 | 0 => 0 | 124 => 148 | 105 => 166 | 21 => 21 | 119 => 186 | 46 => 155 | 139 => 189 | 138 => 188 | n => n, fun | 3 => 7 | 4 => 8 | n => n⟩
theorem Tryz.lays161 : Go.Proofs.Lays.n161 Tryz.prog Tryz.lays161_ren := {
  mixed := by kernel_rfl
  f119 := Tryz.func160.trans (congrArg some (by kernel_rfl))
  f137 := Tryz.func159.trans (congrArg some (by kernel_rfl))
  f151 := Tryz.func136.trans (congrArg some (by kernel_rfl))
  f152 := Tryz.func150.trans (congrArg some (by kernel_rfl))
  f161 := Tryz.func89.trans (congrArg some (by kernel_rfl))
  f197 := Tryz.func135.trans (congrArg some (by kernel_rfl))
  f217 := Tryz.func145.trans (congrArg some (by kernel_rfl))
  f224 := Tryz.func147.trans (congrArg some (by kernel_rfl))
  f225 := Tryz.func146.trans (congrArg some (by kernel_rfl))
  f227 := Tryz.func110.trans (congrArg some (by kernel_rfl))
  f228 := Tryz.func134.trans (congrArg some (by kernel_rfl))
  f231 := Tryz.func109.trans (congrArg some (by kernel_rfl))
  f233 := Tryz.func111.trans (congrArg some (by kernel_rfl))
  f235 := Tryz.func112.trans (congrArg some (by kernel_rfl))
  f260 := Tryz.func149.trans (congrArg some (by kernel_rfl))
  f266 := Tryz.func157.trans (congrArg some (by kernel_rfl))
  t0 := Tryz.underlying0
  a0 := Tryz.isAgg0
  z0 := Tryz.sizeOf0
  v0 := Tryz.zeroValue0
  t3 := Tryz.underlying3
  a3 := Tryz.isAgg3
  z3 := Tryz.sizeOf3
  v3 := Tryz.zeroValue3
  t4 := Tryz.underlying4
  a4 := Tryz.isAgg4
  z4 := Tryz.sizeOf4
  v4 := Tryz.zeroValue4
  t5 := Tryz.underlying5
  a5 := Tryz.isAgg5
  z5 := Tryz.sizeOf5
  v5 := Tryz.zeroValue5
  t9 := Tryz.underlying9
  a9 := Tryz.isAgg9
  z9 := Tryz.sizeOf9
  v9 := Tryz.zeroValue9
  t21 := Tryz.underlying21
  a21 := Tryz.isAgg21
  z21 := Tryz.sizeOf21
  v21 := Tryz.zeroValue21
  t46 := Tryz.underlying155
  a46 := Tryz.isAgg155
  z46 := Tryz.sizeOf155
  v46 := Tryz.zeroValue155
  t105 := Tryz.underlying166
  a105 := Tryz.isAgg166
  z105 := Tryz.sizeOf166
  v105 := Tryz.zeroValue166
  t116 := Tryz.underlying144
  a116 := Tryz.isAgg144
  z116 := Tryz.sizeOf144
  t117 := Tryz.underlying145
  a117 := Tryz.isAgg145
  z117 := Tryz.sizeOf145
  v117 := Tryz.zeroValue145
  t119 := Tryz.underlying186
  a119 := Tryz.isAgg186
  z119 := Tryz.sizeOf186
  t124 := Tryz.underlying148
  a124 := Tryz.isAgg148
  z124 := Tryz.sizeOf148
  v124 := Tryz.zeroValue148
  t138 := Tryz.underlying188
  a138 := Tryz.isAgg188
  z138 := Tryz.sizeOf188
  v138 := Tryz.zeroValue188
  t139 := Tryz.underlying189
  a139 := Tryz.isAgg189
  z139 := Tryz.sizeOf189
  v139 := Tryz.zeroValue189
  g3 := by kernel_rfl
  g4 := by kernel_rfl }
open Go.RowKit in
theorem Tryz.strings_TrimLeft_one (s : ByteArray) (c : UInt8) (hc : c.toNat < 128) (w : World) :
    Calls Tryz.prog 89 #[.string s, .string ⟨#[c]⟩] w fun e w' => e = .returned (.string ⟨(Lib.trimLeftB s.data.toList c).toArray⟩) ∧ w' = w := Any.strings_TrimLeft_one Tryz.lays161 s c hc w
def Tryz.lays162_ren : Go.Shelf.Ren := ⟨fun | 162 => 90 | 232 => 113 | 227 => 110 | 234 => 114 | 236 => 115 | 228 => 134 | 271 => 137 | 151 => 136 | 120 => 151 | 197 => 135 | 152 => 150 | 260 => 149 | 137 => 159 | 119 => 160 | 224 => 147 | 225 => 146 | 217 => 145 | 266 => 157 | n => n, fun | 9 => 9 | 4 => 4 | 3 => 3 | 5 => 5 | 117 => 145 | 116 => 144 | 0 => 0 | 124 => 148 | 21 => 21 | 105 => 166 | 46 => 155 | 119 => 186 | 139 => 189 | 138 => 188 | n => n, fun | 3 => 7 | 4 => 8 | n => n⟩
theorem Tryz.lays162 : Go.Proofs.Lays.n162 Tryz.prog Tryz.lays162_ren := {
  mixed := by kernel_rfl
  f119 := Tryz.func160.trans (congrArg some (by kernel_rfl))
  f120 := Tryz.func151.trans (congrArg some (by kernel_rfl))
  f137 := Tryz.func159.trans (congrArg some (by kernel_rfl))
  f151 := Tryz.func136.trans (congrArg some (by kernel_rfl))
  f152 := Tryz.func150.trans (congrArg some (by kernel_rfl))
  f162 := Tryz.func90.trans (congrArg some (by kernel_rfl))
  f197 := Tryz.func135.trans (congrArg some (by kernel_rfl))
  f217 := Tryz.func145.trans (congrArg some (by kernel_rfl))
  f224 := Tryz.func147.trans (congrArg some (by kernel_rfl))
  f225 := Tryz.func146.trans (congrArg some (by kernel_rfl))
  f227 := Tryz.func110.trans (congrArg some (by kernel_rfl))
  f228 := Tryz.func134.trans (congrArg some (by kernel_rfl))
  f232 := Tryz.func113.trans (congrArg some (by kernel_rfl))
  f234 := Tryz.func114.trans (congrArg some (by kernel_rfl))
  f236 := Tryz.func115.trans (congrArg some (by kernel_rfl))
  f260 := Tryz.func149.trans (congrArg some (by kernel_rfl))
  f266 := Tryz.func157.trans (congrArg some (by kernel_rfl))
  f271 := Tryz.func137.trans (congrArg some (by kernel_rfl))
  t0 := Tryz.underlying0
  a0 := Tryz.isAgg0
  z0 := Tryz.sizeOf0
  v0 := Tryz.zeroValue0
  t3 := Tryz.underlying3
  a3 := Tryz.isAgg3
  z3 := Tryz.sizeOf3
  v3 := Tryz.zeroValue3
  t4 := Tryz.underlying4
  a4 := Tryz.isAgg4
  z4 := Tryz.sizeOf4
  v4 := Tryz.zeroValue4
  t5 := Tryz.underlying5
  a5 := Tryz.isAgg5
  z5 := Tryz.sizeOf5
  v5 := Tryz.zeroValue5
  t9 := Tryz.underlying9
  a9 := Tryz.isAgg9
  z9 := Tryz.sizeOf9
  v9 := Tryz.zeroValue9
  t21 := Tryz.underlying21
  a21 := Tryz.isAgg21
  z21 := Tryz.sizeOf21
  v21 := Tryz.zeroValue21
  t46 := Tryz.underlying155
  a46 := Tryz.isAgg155
  z46 := Tryz.sizeOf155
  v46 := Tryz.zeroValue155
  t105 := Tryz.underlying166
  a105 := Tryz.isAgg166
  z105 := Tryz.sizeOf166
  v105 := Tryz.zeroValue166
  t116 := Tryz.underlying144
  a116 := Tryz.isAgg144
  z116 := Tryz.sizeOf144
  t117 := Tryz.underlying145
  a117 := Tryz.isAgg145
  z117 := Tryz.sizeOf145
  v117 := Tryz.zeroValue145
  t119 := Tryz.underlying186
  a119 := Tryz.isAgg186
  z119 := Tryz.sizeOf186
  t124 := Tryz.underlying148
  a124 := Tryz.isAgg148
  z124 := Tryz.sizeOf148
  v124 := Tryz.zeroValue148
  t138 := Tryz.underlying188
  a138 := Tryz.isAgg188
  z138 := Tryz.sizeOf188
  v138 := Tryz.zeroValue188
  t139 := Tryz.underlying189
  a139 := Tryz.isAgg189
  z139 := Tryz.sizeOf189
  v139 := Tryz.zeroValue189
  g3 := by kernel_rfl
  g4 := by kernel_rfl }
open Go.RowKit in
theorem Tryz.strings_TrimRight_one (s : ByteArray) (c : UInt8) (hc : c.toNat < 128) (w : World) (hs : s.size ≤ 9223372036854775807) :
    Calls Tryz.prog 90 #[.string s, .string ⟨#[c]⟩] w fun e w' => e = .returned (.string ⟨(Lib.trimRightB s.data.toList c).toArray⟩) ∧ w' = w := Any.strings_TrimRight_one Tryz.lays162 s c hc w hs
def Tryz.lays283_ren : Go.Shelf.Ren := ⟨fun | 283 => 91 | n => n, fun | 3 => 3 | 9 => 9 | 4 => 4 | n => n, fun | n => n⟩
theorem Tryz.lays283 : Go.Proofs.Lays.n283 Tryz.prog Tryz.lays283_ren := {
  mixed := by kernel_rfl
  f283 := Tryz.func91.trans (congrArg some (by kernel_rfl))
  t3 := Tryz.underlying3
  a3 := Tryz.isAgg3
  z3 := Tryz.sizeOf3
  v3 := Tryz.zeroValue3
  t4 := Tryz.underlying4
  a4 := Tryz.isAgg4
  z4 := Tryz.sizeOf4
  v4 := Tryz.zeroValue4
  t9 := Tryz.underlying9
  a9 := Tryz.isAgg9
  z9 := Tryz.sizeOf9
  v9 := Tryz.zeroValue9 }
open Go.Lib in
theorem Tryz.internal_strconv_small (i : Nat) (h : i < 100) (w : World) :
    Calls Tryz.prog 91 #[.int .i64 i] w fun e w' => e = .returned (.string ⟨(Lib.decDigits i).toArray⟩) ∧ w' = w := Any.internal_strconv_small Tryz.lays283 i h w
def Tryz.laysM284_ren : Go.Shelf.Ren := ⟨fun | 284 => 92 | 129 => 117 | 317 => 116 | 318 => 118 | n => n, fun | 53 => 120 | 3 => 3 | 212 => 151 | 0 => 0 | 4 => 4 | 46 => 155 | 5 => 5 | 9 => 9 | n => n, fun | 17 => 1 | n => n⟩
theorem Tryz.laysM284 : Go.Proofs.LaysM.n284 Tryz.prog Tryz.laysM284_ren := {
  mixed := by kernel_rfl
  f129 := Tryz.func117.trans (congrArg some (by kernel_rfl))
  f284 := Tryz.func92.trans (congrArg some (by kernel_rfl))
  f317 := Tryz.func116.trans (congrArg some (by kernel_rfl))
  f318 := Tryz.func118.trans (congrArg some (by kernel_rfl))
  t0 := Tryz.underlying0
  a0 := Tryz.isAgg0
  z0 := Tryz.sizeOf0
  v0 := Tryz.zeroValue0
  t3 := Tryz.underlying3
  a3 := Tryz.isAgg3
  z3 := Tryz.sizeOf3
  v3 := Tryz.zeroValue3
  t4 := Tryz.underlying4
  a4 := Tryz.isAgg4
  z4 := Tryz.sizeOf4
  v4 := Tryz.zeroValue4
  t5 := Tryz.underlying5
  a5 := Tryz.isAgg5
  z5 := Tryz.sizeOf5
  v5 := Tryz.zeroValue5
  t9 := Tryz.underlying9
  a9 := Tryz.isAgg9
  z9 := Tryz.sizeOf9
  v9 := Tryz.zeroValue9
  t46 := Tryz.underlying155
  a46 := Tryz.isAgg155
  z46 := Tryz.sizeOf155
  v46 := Tryz.zeroValue155
  t53 := Tryz.underlying120
  a53 := Tryz.isAgg120
  z53 := Tryz.sizeOf120
  v53 := Tryz.zeroValue120
  t212 := Tryz.underlying151
  a212 := Tryz.isAgg151
  z212 := Tryz.sizeOf151
  v212 := Tryz.zeroValue151
  g17 := by kernel_rfl
  i0 := by kernel_rfl
  i3 := by kernel_rfl
  i4 := by kernel_rfl
  i5 := by kernel_rfl
  i9 := by kernel_rfl
  i46 := by kernel_rfl
  i53 := by kernel_rfl
  i212 := by kernel_rfl
  m17 := by kernel_rfl }
open Go.Lib in
theorem Tryz.internal_strconv_numDigits (u : Nat) (h1 : 1 ≤ u) (h2 : u < 18446744073709551616) (w : World) (htab : Lib.TabIs Tryz.prog w "internal/strconv.uint64pow10" .u64 Lib.pow10Tab) :
    Calls Tryz.prog 92 #[.int .u64 u] w fun e w' => e = .returned (.int .i64 (Lib.nDigits u)) ∧ w' = w := Any.internal_strconv_numDigits Tryz.laysM284 u h1 h2 w htab
def Tryz.lays285_ren : Go.Shelf.Ren := ⟨fun | 285 => 93 | n => n, fun | 37 => 22 | 53 => 120 | 3 => 3 | 4 => 4 | 51 => 152 | 9 => 9 | 5 => 5 | 0 => 0 | n => n, fun | n => n⟩
theorem Tryz.lays285 : Go.Proofs.Lays.n285 Tryz.prog Tryz.lays285_ren := {
  mixed := by kernel_rfl
  f285 := Tryz.func93.trans (congrArg some (by kernel_rfl))
  t0 := Tryz.underlying0
  a0 := Tryz.isAgg0
  z0 := Tryz.sizeOf0
  v0 := Tryz.zeroValue0
  t3 := Tryz.underlying3
  a3 := Tryz.isAgg3
  z3 := Tryz.sizeOf3
  v3 := Tryz.zeroValue3
  t4 := Tryz.underlying4
  a4 := Tryz.isAgg4
  z4 := Tryz.sizeOf4
  v4 := Tryz.zeroValue4
  t5 := Tryz.underlying5
  a5 := Tryz.isAgg5
  z5 := Tryz.sizeOf5
  v5 := Tryz.zeroValue5
  t9 := Tryz.underlying9
  a9 := Tryz.isAgg9
  z9 := Tryz.sizeOf9
  v9 := Tryz.zeroValue9
  t37 := Tryz.underlying22
  a37 := Tryz.isAgg22
  z37 := Tryz.sizeOf22
  v37 := Tryz.zeroValue22
  t51 := Tryz.underlying152
  a51 := Tryz.isAgg152
  z51 := Tryz.sizeOf152
  v51 := Tryz.zeroValue152
  t53 := Tryz.underlying120
  a53 := Tryz.isAgg120
  z53 := Tryz.sizeOf120
  v53 := Tryz.zeroValue120 }
open Go.RowKit Go.Sort Go.Lib in
theorem Tryz.internal_strconv_formatBase10 (blk off cap : Nat) (u : Nat) (d : Array UInt8) (w : World) (hH : Holds (fun (b : UInt8) => Value.int .u8 (b.toNat : Int)) w blk off d) (hu : u < 10 ^ d.size) (hu64 : u < 18446744073709551616) (hsz : d.size < 4611686018427387904) :
    Calls Tryz.prog 93 #[.slice (some ⟨blk, off, none⟩) d.size cap, .int .u64 u] w fun e w' =>
      e = .returned (.tuple #[]) ∧ ∃ (n v' : Nat) (dk : Array UInt8), w' = (putRow (fun (b : UInt8) => Value.int .u8 (b.toNat : Int)) w blk off dk).drewN n ∧ FmtInv d.size u 0 v' dk := Any.internal_strconv_formatBase10 Tryz.lays285 blk off cap u d w hH hu hu64 hsz
def Tryz.laysM173_ren : Go.Shelf.Ren := ⟨fun | 173 => 44 | 246 => 68 | 283 => 91 | 284 => 92 | 285 => 93 | 286 => 94 | 129 => 117 | 317 => 116 | 318 => 118 | 319 => 119 | 320 => 120 | 337 => 138 | 338 => 139 | n => n, fun | 2 => 2 | 3 => 3 | 9 => 9 | 4 => 4 | 171 => 128 | 0 => 0 | 53 => 120 | 37 => 22 | 5 => 5 | 173 => 131 | 212 => 151 | 51 => 152 | 20 => 20 | 213 => 153 | 46 => 155 | 232 => 178 | 233 => 179 | n => n, fun | 17 => 1 | 18 => 3 | 19 => 4 | n => n⟩
theorem Tryz.laysM173 : Go.Proofs.LaysM.n173 Tryz.prog Tryz.laysM173_ren := {
  mixed := by kernel_rfl
  f129 := Tryz.func117.trans (congrArg some (by kernel_rfl))
  f173 := Tryz.func44.trans (congrArg some (by kernel_rfl))
  f246 := Tryz.func68.trans (congrArg some (by kernel_rfl))
  f283 := Tryz.func91.trans (congrArg some (by kernel_rfl))
  f284 := Tryz.func92.trans (congrArg some (by kernel_rfl))
  f285 := Tryz.func93.trans (congrArg some (by kernel_rfl))
  f286 := Tryz.func94.trans (congrArg some (by kernel_rfl))
  f317 := Tryz.func116.trans (congrArg some (by kernel_rfl))
  f318 := Tryz.func118.trans (congrArg some (by kernel_rfl))
  f319 := Tryz.func119.trans (congrArg some (by kernel_rfl))
  f320 := Tryz.func120.trans (congrArg some (by kernel_rfl))
  f337 := Tryz.func138.trans (congrArg some (by kernel_rfl))
  f338 := Tryz.func139.trans (congrArg some (by kernel_rfl))
  t0 := Tryz.underlying0
  a0 := Tryz.isAgg0
  z0 := Tryz.sizeOf0
  v0 := Tryz.zeroValue0
  t2 := Tryz.underlying2
  a2 := Tryz.isAgg2
  z2 := Tryz.sizeOf2
  v2 := Tryz.zeroValue2
  t3 := Tryz.underlying3
  a3 := Tryz.isAgg3
  z3 := Tryz.sizeOf3
  v3 := Tryz.zeroValue3
  t4 := Tryz.underlying4
  a4 := Tryz.isAgg4
  z4 := Tryz.sizeOf4
  v4 := Tryz.zeroValue4
  t5 := Tryz.underlying5
  a5 := Tryz.isAgg5
  z5 := Tryz.sizeOf5
  v5 := Tryz.zeroValue5
  t9 := Tryz.underlying9
  a9 := Tryz.isAgg9
  z9 := Tryz.sizeOf9
  v9 := Tryz.zeroValue9
  t20 := Tryz.underlying20
  a20 := Tryz.isAgg20
  z20 := Tryz.sizeOf20
  v20 := Tryz.zeroValue20
  t37 := Tryz.underlying22
  a37 := Tryz.isAgg22
  z37 := Tryz.sizeOf22
  v37 := Tryz.zeroValue22
  t46 := Tryz.underlying155
  a46 := Tryz.isAgg155
  z46 := Tryz.sizeOf155
  v46 := Tryz.zeroValue155
  t51 := Tryz.underlying152
  a51 := Tryz.isAgg152
  z51 := Tryz.sizeOf152
  v51 := Tryz.zeroValue152
  t53 := Tryz.underlying120
  a53 := Tryz.isAgg120
  z53 := Tryz.sizeOf120
  v53 := Tryz.zeroValue120
  t171 := Tryz.underlying128
  a171 := Tryz.isAgg128
  z171 := Tryz.sizeOf128
  v171 := Tryz.zeroValue128
  t173 := Tryz.underlying131
  a173 := Tryz.isAgg131
  z173 := Tryz.sizeOf131
  v173 := Tryz.zeroValue131
  t212 := Tryz.underlying151
  a212 := Tryz.isAgg151
  z212 := Tryz.sizeOf151
  v212 := Tryz.zeroValue151
  t213 := Tryz.underlying153
  a213 := Tryz.isAgg153
  z213 := Tryz.sizeOf153
  t232 := Tryz.underlying178
  a232 := Tryz.isAgg178
  z232 := Tryz.sizeOf178
  v232 := Tryz.zeroValue178
  t233 := Tryz.underlying179
  a233 := Tryz.isAgg179
  z233 := Tryz.sizeOf179
  v233 := Tryz.zeroValue179
  g17 := by kernel_rfl
  g18 := by kernel_rfl
  g19 := by kernel_rfl
  i0 := by kernel_rfl
  i2 := by kernel_rfl
  i3 := by kernel_rfl
  i4 := by kernel_rfl
  i5 := by kernel_rfl
  i9 := by kernel_rfl
  i20 := by kernel_rfl
  i37 := by kernel_rfl
  i46 := by kernel_rfl
  i51 := by kernel_rfl
  i53 := by kernel_rfl
  i171 := by kernel_rfl
  i173 := by kernel_rfl
  i212 := by kernel_rfl
  i232 := by kernel_rfl
  i233 := by kernel_rfl
  m17 := by kernel_rfl
  m18 := by kernel_rfl
  m19 := by kernel_rfl }
open Go.RowKit Go.Sort Go.Lib in
theorem Tryz.strconv_FormatInt_10 (n : Int) (h0 : -9223372036854775808 ≤ n) (h1 : n ≤ 9223372036854775807) (w : World) (htab : Lib.TabIs Tryz.prog w "internal/strconv.uint64pow10" .u64 Lib.pow10Tab) :
    Calls Tryz.prog 44 #[.int .i64 n, .int .i64 10] w fun e w' => e = .returned (.string ⟨(Lib.itoa n).toArray⟩) ∧ ∃ k os, w' = grow (w.drewN k) os := Any.strconv_FormatInt_10 Tryz.laysM173 n h0 h1 w htab
def Tryz.laysC174_ren : Go.Shelf.Ren := ⟨fun | 174 => 102 | 247 => 129 | 245 => 130 | 287 => 140 | 279 => 141 | 280 => 142 | 281 => 143 | 282 => 144 | 321 => 152 | 322 => 153 | 316 => 154 | 171 => 156 | 205 => 155 | 243 => 161 | 246 => 68 | 283 => 91 | 284 => 92 | 285 => 93 | 286 => 94 | 129 => 117 | 317 => 116 | 318 => 118 | 319 => 119 | 320 => 120 | 337 => 138 | 338 => 139 | n => n, fun | 9 => 9 | 3 => 3 | 2 => 2 | 75 => 110 | 85 => 138 | 4 => 4 | 167 => 170 | 5 => 5 | 53 => 120 | 175 => 171 | 46 => 155 | 168 => 173 | 37 => 22 | 0 => 0 | 210 => 182 | 21 => 21 | 127 => 133 | 145 => 193 | 143 => 191 | 171 => 128 | 173 => 131 | 212 => 151 | 51 => 152 | 20 => 20 | 213 => 153 | 232 => 178 | 233 => 179 | 80 => 100 | n => n, fun | 15 => 5 | 16 => 6 | 17 => 1 | 18 => 3 | 19 => 4 | n => n⟩
theorem Tryz.laysC174 : Go.Proofs.LaysC.n174 Tryz.prog Tryz.laysC174_ren := {
  mixed := by kernel_rfl
  f129 := Tryz.func117.trans (congrArg some (by kernel_rfl))
  f171 := Tryz.func156.trans (congrArg some (by kernel_rfl))
  f174 := Tryz.func102.trans (congrArg some (by kernel_rfl))
  f205 := Tryz.func155.trans (congrArg some (by kernel_rfl))
  f243 := Tryz.func161.trans (congrArg some (by kernel_rfl))
  f245 := Tryz.func130.trans (congrArg some (by kernel_rfl))
  f246 := Tryz.func68.trans (congrArg some (by kernel_rfl))
  f247 := Tryz.func129.trans (congrArg some (by kernel_rfl))
  f279 := Tryz.func141.trans (congrArg some (by kernel_rfl))
  f280 := Tryz.func142.trans (congrArg some (by kernel_rfl))
  f281 := Tryz.func143.trans (congrArg some (by kernel_rfl))
  f282 := Tryz.func144.trans (congrArg some (by kernel_rfl))
  f283 := Tryz.func91.trans (congrArg some (by kernel_rfl))
  f284 := Tryz.func92.trans (congrArg some (by kernel_rfl))
  f285 := Tryz.func93.trans (congrArg some (by kernel_rfl))
  f286 := Tryz.func94.trans (congrArg some (by kernel_rfl))
  f287 := Tryz.func140.trans (congrArg some (by kernel_rfl))
  f316 := Tryz.func154.trans (congrArg some (by kernel_rfl))
  f317 := Tryz.func116.trans (congrArg some (by kernel_rfl))
  f318 := Tryz.func118.trans (congrArg some (by kernel_rfl))
  f319 := Tryz.func119.trans (congrArg some (by kernel_rfl))
  f320 := Tryz.func120.trans (congrArg some (by kernel_rfl))
  f321 := Tryz.func152.trans (congrArg some (by kernel_rfl))
  f322 := Tryz.func153.trans (congrArg some (by kernel_rfl))
  f337 := Tryz.func138.trans (congrArg some (by kernel_rfl))
  f338 := Tryz.func139.trans (congrArg some (by kernel_rfl))
  t0 := Tryz.underlying0
  a0 := Tryz.isAgg0
  z0 := Tryz.sizeOf0
  v0 := Tryz.zeroValue0
  t2 := Tryz.underlying2
  a2 := Tryz.isAgg2
  z2 := Tryz.sizeOf2
  v2 := Tryz.zeroValue2
  t3 := Tryz.underlying3
  a3 := Tryz.isAgg3
  z3 := Tryz.sizeOf3
  v3 := Tryz.zeroValue3
  t4 := Tryz.underlying4
  a4 := Tryz.isAgg4
  z4 := Tryz.sizeOf4
  v4 := Tryz.zeroValue4
  t5 := Tryz.underlying5
  a5 := Tryz.isAgg5
  z5 := Tryz.sizeOf5
  v5 := Tryz.zeroValue5
  t9 := Tryz.underlying9
  a9 := Tryz.isAgg9
  z9 := Tryz.sizeOf9
  v9 := Tryz.zeroValue9
  t20 := Tryz.underlying20
  a20 := Tryz.isAgg20
  z20 := Tryz.sizeOf20
  v20 := Tryz.zeroValue20
  t21 := Tryz.underlying21
  a21 := Tryz.isAgg21
  z21 := Tryz.sizeOf21
  v21 := Tryz.zeroValue21
  t37 := Tryz.underlying22
  a37 := Tryz.isAgg22
  z37 := Tryz.sizeOf22
  v37 := Tryz.zeroValue22
  t46 := Tryz.underlying155
  a46 := Tryz.isAgg155
  z46 := Tryz.sizeOf155
  v46 := Tryz.zeroValue155
  t51 := Tryz.underlying152
  a51 := Tryz.isAgg152
  z51 := Tryz.sizeOf152
  v51 := Tryz.zeroValue152
  t53 := Tryz.underlying120
  a53 := Tryz.isAgg120
  z53 := Tryz.sizeOf120
  v53 := Tryz.zeroValue120
  t75 := Tryz.underlying110
  a75 := Tryz.isAgg110
  z75 := Tryz.sizeOf110
  v75 := Tryz.zeroValue110
  t85 := Tryz.underlying138
  a85 := Tryz.isAgg138
  z85 := Tryz.sizeOf138
  v85 := Tryz.zeroValue138
  t127 := Tryz.underlying133
  a127 := Tryz.isAgg133
  z127 := Tryz.sizeOf133
  v127 := Tryz.zeroValue133
  t143 := Tryz.underlying191
  a143 := Tryz.isAgg191
  z143 := Tryz.sizeOf191
  v143 := Tryz.zeroValue191
  t145 := Tryz.underlying193
  a145 := Tryz.isAgg193
  z145 := Tryz.sizeOf193
  v145 := Tryz.zeroValue193
  t167 := Tryz.underlying170
  a167 := Tryz.isAgg170
  z167 := Tryz.sizeOf170
  v167 := Tryz.zeroValue170
  t168 := Tryz.underlying173
  a168 := Tryz.isAgg173
  z168 := Tryz.sizeOf173
  v168 := Tryz.zeroValue173
  t171 := Tryz.underlying128
  a171 := Tryz.isAgg128
  z171 := Tryz.sizeOf128
  v171 := Tryz.zeroValue128
  t173 := Tryz.underlying131
  a173 := Tryz.isAgg131
  z173 := Tryz.sizeOf131
  v173 := Tryz.zeroValue131
  t175 := Tryz.underlying171
  a175 := Tryz.isAgg171
  z175 := Tryz.sizeOf171
  v175 := Tryz.zeroValue171
  t210 := Tryz.underlying182
  a210 := Tryz.isAgg182
  z210 := Tryz.sizeOf182
  v210 := Tryz.zeroValue182
  t212 := Tryz.underlying151
  a212 := Tryz.isAgg151
  z212 := Tryz.sizeOf151
  v212 := Tryz.zeroValue151
  t213 := Tryz.underlying153
  a213 := Tryz.isAgg153
  z213 := Tryz.sizeOf153
  t232 := Tryz.underlying178
  a232 := Tryz.isAgg178
  z232 := Tryz.sizeOf178
  v232 := Tryz.zeroValue178
  t233 := Tryz.underlying179
  a233 := Tryz.isAgg179
  z233 := Tryz.sizeOf179
  v233 := Tryz.zeroValue179
  g15 := by kernel_rfl
  g16 := by kernel_rfl
  g17 := by kernel_rfl
  g18 := by kernel_rfl
  g19 := by kernel_rfl
  t80 := Tryz.underlying100
  a80 := Tryz.isAgg100
  z80 := Tryz.sizeOf100
  v80 := Tryz.zeroValue100
  i0 := by kernel_rfl
  i2 := by kernel_rfl
  i3 := by kernel_rfl
  i4 := by kernel_rfl
  i5 := by kernel_rfl
  i9 := by kernel_rfl
  i20 := by kernel_rfl
  i21 := by kernel_rfl
  i37 := by kernel_rfl
  i46 := by kernel_rfl
  i51 := by kernel_rfl
  i53 := by kernel_rfl
  i75 := by kernel_rfl
  i80 := by kernel_rfl
  i85 := by kernel_rfl
  i127 := by kernel_rfl
  i143 := by kernel_rfl
  i145 := by kernel_rfl
  i167 := by kernel_rfl
  i168 := by kernel_rfl
  i171 := by kernel_rfl
  i173 := by kernel_rfl
  i175 := by kernel_rfl
  i210 := by kernel_rfl
  i212 := by kernel_rfl
  i232 := by kernel_rfl
  i233 := by kernel_rfl
  m15 := by kernel_rfl
  m16 := by kernel_rfl
  m17 := by kernel_rfl
  m18 := by kernel_rfl
  m19 := by kernel_rfl
  c0 := by kernel_rfl
  c2 := by kernel_rfl
  c3 := by kernel_rfl
  c4 := by kernel_rfl
  c5 := by kernel_rfl
  c9 := by kernel_rfl
  c20 := by kernel_rfl
  c21 := by kernel_rfl
  c37 := by kernel_rfl
  c46 := by kernel_rfl
  c51 := by kernel_rfl
  c53 := by kernel_rfl
  c75 := by kernel_rfl
  c80 := by kernel_rfl
  c85 := by kernel_rfl
  c127 := by kernel_rfl
  c143 := by kernel_rfl
  c145 := by kernel_rfl
  c167 := by kernel_rfl
  c168 := by kernel_rfl
  c171 := by kernel_rfl
  c173 := by kernel_rfl
  c175 := by kernel_rfl
  c210 := by kernel_rfl
  c212 := by kernel_rfl
  c213 := by kernel_rfl
  c232 := by kernel_rfl
  c233 := by kernel_rfl }
open Go.RowKit in
theorem Tryz.strconv_ParseInt_10_at64_ok (s : ByteArray) (hmax : s.size ≤ 9223372036854775806) (v : Int) (h : Lib.parseIntB 64 s.data.toList = .ok v) (w : World) :
    Calls Tryz.prog 102 #[.string s, .int .i64 10, .int .i64 64] w fun e w' => e = .returned (.tuple #[.int .i64 v, .nilIface]) ∧ (w' = w ∨ ∃ t, w' = Lib.bytesWorld w 5 t) := Any.strconv_ParseInt_10_at64_ok Tryz.laysC174 s hmax v h w
def Tryz.lays145_ren : Go.Shelf.Ren := ⟨fun | 145 => 88 | 220 => 108 | 219 => 133 | 217 => 145 | 225 => 146 | 224 => 147 | 267 => 148 | 266 => 157 | 314 => 158 | n => n, fun | 9 => 9 | 4 => 4 | 59 => 125 | 3 => 3 | 5 => 5 | 46 => 155 | 146 => 184 | 51 => 152 | n => n, fun | 1 => 2 | n => n⟩
theorem Tryz.lays145 : Go.Proofs.Lays.n145 Tryz.prog Tryz.lays145_ren := {
  mixed := by kernel_rfl
  f145 := Tryz.func88.trans (congrArg some (by kernel_rfl))
  f217 := Tryz.func145.trans (congrArg some (by kernel_rfl))
  f219 := Tryz.func133.trans (congrArg some (by kernel_rfl))
  f220 := Tryz.func108.trans (congrArg some (by kernel_rfl))
  f224 := Tryz.func147.trans (congrArg some (by kernel_rfl))
  f225 := Tryz.func146.trans (congrArg some (by kernel_rfl))
  f266 := Tryz.func157.trans (congrArg some (by kernel_rfl))
  f267 := Tryz.func148.trans (congrArg some (by kernel_rfl))
  f314 := Tryz.func158.trans (congrArg some (by kernel_rfl))
  t3 := Tryz.underlying3
  a3 := Tryz.isAgg3
  z3 := Tryz.sizeOf3
  v3 := Tryz.zeroValue3
  t4 := Tryz.underlying4
  a4 := Tryz.isAgg4
  z4 := Tryz.sizeOf4
  v4 := Tryz.zeroValue4
  t5 := Tryz.underlying5
  a5 := Tryz.isAgg5
  z5 := Tryz.sizeOf5
  v5 := Tryz.zeroValue5
  t9 := Tryz.underlying9
  a9 := Tryz.isAgg9
  z9 := Tryz.sizeOf9
  v9 := Tryz.zeroValue9
  t46 := Tryz.underlying155
  a46 := Tryz.isAgg155
  z46 := Tryz.sizeOf155
  v46 := Tryz.zeroValue155
  t51 := Tryz.underlying152
  a51 := Tryz.isAgg152
  z51 := Tryz.sizeOf152
  v51 := Tryz.zeroValue152
  t59 := Tryz.underlying125
  a59 := Tryz.isAgg125
  z59 := Tryz.sizeOf125
  v59 := Tryz.zeroValue125
  t146 := Tryz.underlying184
  a146 := Tryz.isAgg184
  z146 := Tryz.sizeOf184
  v146 := Tryz.zeroValue184
  g1 := by kernel_rfl }
open Go.RowKit Go.Lib in
theorem Tryz.strings_Cut (s sep : ByteArray) (m : Int) (w : World) (hs : s.size < 4294967281) (hm : w.cell? ⟨2, 0, none⟩ = some (.int .i64 m)) :
    Calls Tryz.prog 88 #[.string s, .string sep] w fun e w' => e = .returned (.tuple #[.string ⟨(Lib.cut s.data.toList sep.data.toList).1.toArray⟩, .string ⟨(Lib.cut s.data.toList sep.data.toList).2.1.toArray⟩, .bool (Lib.cut s.data.toList sep.data.toList).2.2]) ∧ ∃ n, w' = w.drewN n := Any.strings_Cut Tryz.lays145 s sep m w hs hm
def Tryz.lays197_ren : Go.Shelf.Ren := ⟨fun | 197 => 135 | 260 => 149 | n => n, fun | 9 => 9 | 21 => 21 | 3 => 3 | 4 => 4 | 5 => 5 | 105 => 166 | 119 => 186 | 0 => 0 | 46 => 155 | 139 => 189 | 138 => 188 | n => n, fun | 3 => 7 | 4 => 8 | n => n⟩
theorem Tryz.lays197 : Go.Proofs.Lays.n197 Tryz.prog Tryz.lays197_ren := {
  mixed := by kernel_rfl
  f197 := Tryz.func135.trans (congrArg some (by kernel_rfl))
  f260 := Tryz.func149.trans (congrArg some (by kernel_rfl))
  t0 := Tryz.underlying0
  a0 := Tryz.isAgg0
  z0 := Tryz.sizeOf0
  v0 := Tryz.zeroValue0
  t3 := Tryz.underlying3
  a3 := Tryz.isAgg3
  z3 := Tryz.sizeOf3
  v3 := Tryz.zeroValue3
  t4 := Tryz.underlying4
  a4 := Tryz.isAgg4
  z4 := Tryz.sizeOf4
  v4 := Tryz.zeroValue4
  t5 := Tryz.underlying5
  a5 := Tryz.isAgg5
  z5 := Tryz.sizeOf5
  v5 := Tryz.zeroValue5
  t9 := Tryz.underlying9
  a9 := Tryz.isAgg9
  z9 := Tryz.sizeOf9
  v9 := Tryz.zeroValue9
  t21 := Tryz.underlying21
  a21 := Tryz.isAgg21
  z21 := Tryz.sizeOf21
  v21 := Tryz.zeroValue21
  t46 := Tryz.underlying155
  a46 := Tryz.isAgg155
  z46 := Tryz.sizeOf155
  v46 := Tryz.zeroValue155
  t105 := Tryz.underlying166
  a105 := Tryz.isAgg166
  z105 := Tryz.sizeOf166
  v105 := Tryz.zeroValue166
  t119 := Tryz.underlying186
  a119 := Tryz.isAgg186
  z119 := Tryz.sizeOf186
  t138 := Tryz.underlying188
  a138 := Tryz.isAgg188
  z138 := Tryz.sizeOf188
  v138 := Tryz.zeroValue188
  t139 := Tryz.underlying189
  a139 := Tryz.isAgg189
  z139 := Tryz.sizeOf189
  v139 := Tryz.zeroValue189
  g3 := by kernel_rfl
  g4 := by kernel_rfl }
open Go.RowKit Go.Lib in
theorem Tryz.utf8_DecodeRuneInString_ascii (s : ByteArray) (x : UInt8) (w : World) (h0 : s.data.toList[0]? = some x) (hx : x.toNat < 128) :
    Calls Tryz.prog 135 #[.string s] w fun e w' => e = .returned (.tuple #[.int .i32 x.toNat, .int .i64 1]) ∧ w' = w := Any.utf8_DecodeRuneInString_ascii Tryz.lays197 s x w h0 hx
end Go.Proofs
