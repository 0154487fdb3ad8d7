/- Trees: their data. -/
import Derived.Test.YthpgepillaeldaaDoorZH1
namespace Go.Proofs.YthpgepillaeldaaDoor.Zz
set_option linter.unusedVariables false
set_option linter.unusedSimpArgs false
/-- A node: its kind, its type, its text, its number, its kids. -/
inductive Nd where
  | mk (k t : Int) (s : List UInt8) (n : Int) (l : List Nd)
mutual
def Nd.enc : Nd → List D
  | .mk k t s n l => [.int .i64 k, .int .i64 t, .str s, .int .i64 n, .sl (Nd.encs l)]
def Nd.encs : List Nd → List (List D)
  | [] => []
  | x :: l => Nd.enc x :: Nd.encs l
end
mutual
def Nd.cnt : Nd → Nat
  | .mk k t s n l => 1 + Nd.cnts l
def Nd.cnts : List Nd → Nat
  | [] => 0
  | x :: l => Nd.cnt x + Nd.cnts l
end
theorem enc_mk (k t : Int) (s : List UInt8) (n : Int) (l : List Nd) : Nd.enc (.mk k t s n l) = [.int .i64 k, .int .i64 t, .str s, .int .i64 n, .sl (Nd.encs l)] := by rw [Nd.enc]
theorem encs_nil : Nd.encs [] = [] := by rw [Nd.encs]
theorem encs_cons (x : Nd) (l : List Nd) : Nd.encs (x :: l) = Nd.enc x :: Nd.encs l := by rw [Nd.encs]
theorem encs_map : ∀ l : List Nd, Nd.encs l = l.map Nd.enc
  | [] => by rw [encs_nil]; rfl
  | x :: l => by rw [encs_cons, encs_map l]; rfl
theorem cnt_mk (k t : Int) (s : List UInt8) (n : Int) (l : List Nd) : Nd.cnt (.mk k t s n l) = 1 + Nd.cnts l := by rw [Nd.cnt]
theorem cnts_nil : Nd.cnts [] = 0 := by rw [Nd.cnts]
theorem cnts_cons (x : Nd) (l : List Nd) : Nd.cnts (x :: l) = Nd.cnt x + Nd.cnts l := by rw [Nd.cnts]
theorem cnt_pos (x : Nd) : 0 < x.cnt := by cases x; rw [cnt_mk]; omega
theorem cnts_mem : ∀ {l : List Nd} {x : Nd}, x ∈ l → x.cnt ≤ Nd.cnts l
  | y :: l, x, h => by
    rw [cnts_cons]
    rcases List.mem_cons.1 h with e | e
    · rw [e]; omega
    · have := cnts_mem e; omega
theorem cnt_kid {k t : Int} {s : List UInt8} {n : Int} {l : List Nd} {x : Nd} (h : x ∈ l) : x.cnt < Nd.cnt (.mk k t s n l) := by
  rw [cnt_mk]
  have := cnts_mem h
  omega
theorem cnts_app (l r : List Nd) : Nd.cnts (l ++ r) = Nd.cnts l + Nd.cnts r := by
  induction l with
  | nil => rw [List.nil_append, cnts_nil]; omega
  | cons x l ih => rw [List.cons_append, cnts_cons, cnts_cons, ih]; omega
theorem len_enc (x : Nd) : x.enc.length = 5 := by cases x; rw [enc_mk]; rfl
theorem enc_ok (x : Nd) : x.enc.all cellOk = true := by cases x; rw [enc_mk]; rfl
theorem enc_unnil (x : Nd) : x.enc.map unnil = x.enc := by cases x; rw [enc_mk]; rfl
theorem len_encs (l : List Nd) : (Nd.encs l).length = l.length := by rw [encs_map, List.length_map]
theorem encs_get {l : List Nd} {i : Nat} {x : Nd} (h : l[i]? = some x) : (Nd.encs l)[i]? = some x.enc := by rw [encs_map, List.getElem?_map, h]; rfl
theorem encs_app (l r : List Nd) : Nd.encs (l ++ r) = Nd.encs l ++ Nd.encs r := by rw [encs_map, encs_map, encs_map, List.map_append]
theorem encs_snoc (l : List Nd) (x : Nd) : Nd.encs l ++ [x.enc] = Nd.encs (l ++ [x]) := by rw [encs_app, encs_cons, encs_nil]
theorem encs_ne {l : List Nd} : l ≠ [] → Nd.encs l ≠ [] := by
  intro h e
  apply h
  have := congrArg List.length e
  rw [len_encs] at this
  simpa using this
/-- Trees are by their size: what holds of all smaller ones holds of each. -/
theorem Nd.ind {P : Nd → Prop} (h : ∀ x, (∀ y : Nd, y.cnt < x.cnt → P y) → P x) (x : Nd) : P x := by
  have key : ∀ n, ∀ x : Nd, x.cnt ≤ n → P x := by
    intro n
    induction n with
    | zero => intro x hx; have := cnt_pos x; omega
    | succ n ih => intro x hx; exact h x fun y hy => ih y (by omega)
  exact key _ x (Nat.le_refl _)
theorem map_inj_of {α β : Type} {f : α → β} : ∀ {l r : List α}, (∀ x ∈ l, ∀ y, f x = f y → x = y) → l.map f = r.map f → l = r
  | [], [], _, _ => rfl
  | [], _ :: _, _, h => by cases h
  | _ :: _, [], _, h => by cases h
  | x :: l, y :: r, hf, h => by
    simp only [List.map_cons, List.cons.injEq] at h
    rw [hf x (by simp) y h.1, map_inj_of (fun z hz => hf z (by simp [hz])) h.2]
theorem enc_inj : ∀ x y : Nd, x.enc = y.enc → x = y := by
  intro x
  induction x using Nd.ind with
  | h x ih =>
    intro y e
    obtain ⟨k, t, s, n, l⟩ := x
    obtain ⟨k', t', s', n', l'⟩ := y
    rw [enc_mk, enc_mk] at e
    simp only [List.cons.injEq, D.int.injEq, D.str.injEq, D.sl.injEq, true_and, and_true] at e
    obtain ⟨rfl, rfl, rfl, rfl, e⟩ := e
    rw [encs_map, encs_map] at e
    rw [map_inj_of (fun x hx y => ih x (cnt_kid hx) y) e]
open Classical in
noncomputable def decN (ds : List D) : Option Nd := if h : ∃ x : Nd, x.enc = ds then some (Classical.choose h) else none
theorem decN_enc (x : Nd) : decN x.enc = some x := by
  unfold decN
  rw [dif_pos ⟨x, rfl⟩]
  congr 1
  exact enc_inj _ _ (Classical.choose_spec (⟨x, rfl⟩ : ∃ y : Nd, y.enc = x.enc))
theorem decN_some {ds : List D} {x : Nd} (h : decN ds = some x) : ds = x.enc := by
  unfold decN at h
  split at h
  · rename_i hx
    cases h
    exact (Classical.choose_spec hx).symm
  · cases h
theorem encs_inj {l r : List Nd} (h : Nd.encs l = Nd.encs r) : l = r := by
  rw [encs_map, encs_map] at h
  exact map_inj_of (fun x _ y => enc_inj x y) h
open Classical in
noncomputable def decNs (ds : List (List D)) : Option (List Nd) := if h : ∃ x : List Nd, Nd.encs x = ds then some (Classical.choose h) else none
theorem decNs_enc (x : List Nd) : decNs (Nd.encs x) = some x := by
  unfold decNs
  rw [dif_pos ⟨x, rfl⟩]
  congr 1
  exact encs_inj (Classical.choose_spec (⟨x, rfl⟩ : ∃ y : List Nd, Nd.encs y = Nd.encs x))
theorem decNs_some {ds : List (List D)} {x : List Nd} (h : decNs ds = some x) : ds = Nd.encs x := by
  unfold decNs at h
  split at h
  · rename_i hx
    cases h
    exact (Classical.choose_spec hx).symm
  · cases h
/-- A kid of a slice of kids. -/
theorem askE_encs {K : D → AHeap → Prop} {h : AHeap} {l : List Nd} {i : Nat} {x : Nd} (e : l[i]? = some x) : askE 5 K h (Nd.encs l) (i : Int) = K (.eptr x.enc 0) h := by
  have h1 := (List.getElem?_eq_some_iff.1 e).1
  have h2 : (0 ≤ (i : Int) ∧ (i : Int) < ((Nd.encs l).length : Int)) := by rw [len_encs]; omega
  simp only [askE, h2, Int.toNat_natCast, encs_get e, Option.some.injEq]
  apply propext
  constructor
  · intro k; exact (k.2 _ rfl).2
  · intro k; exact ⟨by simp, fun y hy => by rw [← hy]; exact ⟨len_enc x, k⟩⟩
theorem part_enc (x : Nd) : partD x.enc 0 (some 5) = some (.agg x.enc) := by
  have := len_enc x
  simp only [partD, List.drop_zero]
  rw [if_pos (by omega), List.take_of_length_le (by omega)]
theorem ownH_f {h : AHeap} {r sz i : Nat} {xs : List (List D)} (hne : xs ≠ [] → r ≠ i) : (ownH h r sz xs).f i = h.f i := by
  unfold ownH
  split
  · rfl
  · rename_i h0
    rw [AHeap.set_f, if_neg (fun e => hne h0 e.symm)]
theorem ownH_r {h : AHeap} {r sz : Nat} {xs : List (List D)} (h0 : xs ≠ []) : (ownH h r sz xs).f r = some (.row sz (xs.length + 2) xs false) := by
  unfold ownH
  rw [if_neg h0, AHeap.set_f, if_pos rfl]
/-- One more element behind a slice that begins as nil. -/
theorem app_own {sz b r : Nat} {xs : List (List D)} {y : List D} {h : AHeap} {K : D → AHeap → Prop} (hr : xs ≠ [] → h.f r = some (.row sz (xs.length + 2) xs false)) (hy : y.length = sz ∧ y.all cellOk = true) (hb : 0 < b) (hn : (xs.length + 1) * b ≤ 140737488355328)
    (hk : ∀ r', (xs = [] → h.f r' = none) → (xs ≠ [] → r' = r) → K (ownD r' (xs.length + 1)) (h.set r' (.row sz (xs.length + 1 + 2) (xs ++ [y]) false))) : appK sz b (ownD r xs.length) h K (some [y]) := by
  by_cases h0 : xs = []
  · subst h0
    rw [List.length_nil, ownD_zero, app_nil]
    refine ⟨by simpa using hy, hb, by simp, by simpa using hn, fun _ id hid => ?_⟩
    have := hk id (fun _ => hid) (fun h => absurd rfl h)
    simpa [ownD] using this
  · have hl : xs.length ≠ 0 := fun h => h0 (List.length_eq_zero_iff.1 h)
    rw [ownD_pos hl, app_row, hr h0, appR_row]
    refine ⟨by simpa using hy, hb, rfl, rfl, rfl, rfl, by simpa using hn, ?_⟩
    have := hk r (fun h => absurd h h0) (fun _ => rfl)
    rw [ownD_pos (by omega)] at this
    have e : xs.length + 2 + [y].length = xs.length + 1 + 2 := by simp
    rw [e]
    exact this
end Go.Proofs.YthpgepillaeldaaDoor.Zz
