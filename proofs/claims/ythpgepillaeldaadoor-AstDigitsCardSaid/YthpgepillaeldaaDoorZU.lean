/- Laws by which what code asks is brought to plain statements. -/
import Derived.Test.YthpgepillaeldaaDoorZT
set_option linter.unusedVariables false
set_option linter.unusedSimpArgs false
namespace Go.Proofs.YthpgepillaeldaaDoor.Zz

/-! ### Statement by statement -/
section
variable {T : Tab} {K : Ex → Fr → AHeap → Prop} {E : List DDef → D → AHeap → Prop} {σ : Fr} {h : AHeap}
theorem vc_skip : vc T .skip K E σ h = K .normal σ h := rfl
theorem vc_ops {l : List OpI} : vc T (.ops l) K E σ h = vcOps T l (K .normal) E σ h := rfl
theorem vc_seq {a b : Stm} : vc T (.seq a b) K E σ h = vc T a (fun e σ' h' => match e with | .normal => vc T b K E σ' h' | e => K e σ' h') E σ h := rfl
theorem vc_cond {c : Opd} {a b : Stm} : vc T (.cond c a b) K E σ h = match σ.ev c with
    | .bool t => (t = true → vc T a K E (σ.mark c true) h) ∧ (t = false → vc T b K E (σ.mark c false) h)
    | _ => False := rfl
theorem vc_block {id : Nat} {s : Stm} : vc T (.block id s) K E σ h = vc T s (fun e σ' h' => match e with | .exit i => if i = id then K .normal σ' h' else K (.exit i) σ' h' | e => K e σ' h') E σ h := rfl
theorem vc_exit {id : Nat} : vc T (.exit id) K E σ h = K (.exit id) σ h := rfl
theorem vc_ret : vc T .ret K E σ h = K .ret σ h := rfl
theorem vcOps_nil {K : Fr → AHeap → Prop} : vcOps T [] K E σ h = K σ h := rfl
theorem vcOps_cons {o : OpI} {os : List OpI} {K : Fr → AHeap → Prop} : vcOps T (o :: os) K E σ h = opA T o (fun σ' h' => vcOps T os K E σ' h') (E σ.defs) σ h := rfl
end

theorem ex_ite {α : Type} {c : Prop} [Decidable c] {x : α} {K : α → Prop} : (∃ d, (if c then some x else none) = some d ∧ K d) ↔ c ∧ K x := by
  split <;> simp_all
theorem map_ite {α β : Type} {c : Prop} [Decidable c] {x : α} {f : α → β} : Option.map f (if c then some x else none) = if c then some (f x) else none := by
  split <;> rfl
theorem ex_map {α β : Type} {o : Option α} {f : α → β} {K : β → Prop} : (∃ d, o.map f = some d ∧ K d) ↔ ∃ a, o = some a ∧ K (f a) := by
  cases o <;> simp

theorem bounds_nn (n : Nat) : bounds n none none = some (0, n) := by simp [bounds]
theorem bounds_ns (n : Nat) (k : IntKind) (u : Int) : bounds n none (some (.int k u)) = if 0 ≤ u ∧ u ≤ n then some (0, u.toNat) else none := by simp [bounds, intOfD]
theorem bounds_sn (n : Nat) (k : IntKind) (l : Int) : bounds n (some (.int k l)) none = if 0 ≤ l ∧ l ≤ n then some (l.toNat, n) else none := by simp [bounds, intOfD]
theorem bounds_ss (n : Nat) (k k' : IntKind) (l u : Int) : bounds n (some (.int k l)) (some (.int k' u)) = if 0 ≤ l ∧ l ≤ u ∧ u ≤ n then some (l.toNat, u.toNat) else none := by simp [bounds, intOfD]

theorem slice_str (s : List UInt8) (lo hi : Option D) : sliceEv .str (.str s) lo hi none = (bounds s.length lo hi).map fun b => .str ((s.drop b.1).take (b.2 - b.1)) := rfl
theorem slice_sl (sz : Nat) (xs : List (List D)) (lo hi : Option D) : sliceEv (.sl sz) (.sl xs) lo hi none = if ∀ y ∈ xs, y.length = sz then (bounds xs.length lo hi).map fun b => .sl ((xs.drop b.1).take (b.2 - b.1)) else none := rfl
theorem slice_arr (n id off : Nat) (lo hi : Option D) (hn : n ≤ 9223372036854775807) : sliceEv (.arr n) (.ptr id 1 off) lo hi none = (bounds n lo hi).map fun b => .csl id (off + b.1) (b.2 - b.1) := by
  simp [sliceEv, hn]
theorem ex_ite_o {α : Type} {c : Prop} [Decidable c] {o : Option α} {K : α → Prop} : (∃ d, (if c then o else none) = some d ∧ K d) ↔ c ∧ ∃ d, o = some d ∧ K d := by
  split <;> simp_all

theorem ev_indexS (s : List UInt8) (k : IntKind) (i : Int) : pureEv (.indexS (.str s) (.int k i)) = if 0 ≤ i ∧ i < s.length then some (.int .u8 ((s.getD i.toNat 0).toNat : Int)) else none := by
  simp only [pureEv]
  by_cases h : 0 ≤ i
  · rw [if_pos h]
    by_cases h2 : i.toNat < s.length
    · rw [List.getElem?_eq_getElem h2, if_pos ⟨h, by omega⟩]
      simp [List.getD, h2]
    · rw [List.getElem?_eq_none (by omega), if_neg (by omega)]
  · rw [if_neg h, if_neg (fun x => h x.1)]
theorem ev_indexAddrS (sz : Nat) (xs : List (List D)) (k : IntKind) (i : Int) : pureEv (.indexAddrS sz (.sl xs) (.int k i)) = if (0 ≤ i ∧ i < xs.length) ∧ (xs.getD i.toNat []).length = sz then some (.eptr (xs.getD i.toNat []) 0) else none := by
  simp only [pureEv]
  by_cases h : 0 ≤ i
  · rw [if_pos h]
    by_cases h2 : i.toNat < xs.length
    · rw [List.getElem?_eq_getElem h2]
      have : xs.getD i.toNat [] = xs[i.toNat] := by simp [List.getD, h2]
      rw [this]
      have h3 : i < (xs.length : Int) := by omega
      simp [h, h3]
    · rw [List.getElem?_eq_none (by omega), if_neg (by omega)]
  · rw [if_neg h, if_neg (fun x => h x.1.1)]

theorem getD_map {α : Type} (l : List α) (f : α → List D) (i : Nat) (x : α) (h : i < l.length) : (l.map f).getD i [] = f (l.getD i x) := by
  simp [List.getD, h]
theorem getD_encB (s : List UInt8) (i : Nat) (h : i < s.length) : (encB s).getD i [] = [.int .u8 ((s.getD i 0).toNat : Int)] := getD_map s _ i 0 h
theorem enc_all (s : List UInt8) : (encB s).all isByte = true := by
  simp [encB, isByte]
theorem enc_dec (s : List UInt8) : (encB s).map byteOf = s := by
  induction s with
  | nil => rfl
  | cons b s ih => simp only [encB, List.map_cons] at ih ⊢; rw [ih]; simp [byteOf]
theorem enc_append (s t : List UInt8) : encB s ++ encB t = encB (s ++ t) := by simp [encB]
theorem enc_take (s : List UInt8) (n : Nat) : (encB s).take n = encB (s.take n) := by simp [encB]
theorem enc_drop (s : List UInt8) (n : Nat) : (encB s).drop n = encB (s.drop n) := by simp [encB]
theorem enc_get (s : List UInt8) (i : Nat) (h : i < s.length) : (encB s)[i]? = some [.int .u8 ((s.getD i 0).toNat : Int)] := by
  simp [encB, List.getD, h]
theorem enc_sz (s : List UInt8) : ∀ y ∈ encB s, y.length = 1 := by simp [encB]
theorem len_encB (s : List UInt8) : (encB s).length = s.length := by simp [encB]

theorem retP_iff {rs : List ResI} {d : D} {σ : Fr} {h : AHeap} : retK rs (fun o _ => o = .ret d) .ret σ h ↔ σ.defs = [] ∧ ∃ ds, evRes σ h rs = some ds ∧ (tup ds = d ∨ tup (ds.map (plain h)) = d) := by
  simp only [retK, AOut.ret.injEq]
  constructor
  · rintro ⟨h1, ds, h2, h3⟩
    refine ⟨h1, ds, h2, ?_⟩
    rcases h3 with ⟨_, _, h3⟩ | ⟨_, _, h3⟩
    · exact .inl h3
    · exact .inr h3
  · rintro ⟨h1, ds, h2, h3⟩
    refine ⟨h1, ds, h2, ?_⟩
    rcases h3 with h3 | h3
    · exact .inl ⟨.emp, AHeap.emp_sub _, h3⟩
    · exact .inr ⟨.emp, AHeap.emp_sub _, h3⟩
theorem retN_iff {rs : List ResI} {d : D} {σ : Fr} {h : AHeap} : retK rs (fun o _ => o = .ret d) .normal σ h ↔ σ.defs = [] ∧ ∃ ds, evRes σ h rs = some ds ∧ (tup ds = d ∨ tup (ds.map (plain h)) = d) := retP_iff

/-- The rule of a loop. -/
theorem vc_loop {T : Tab} {s : Stm} {K : Ex → Fr → AHeap → Prop} {E : List DDef → D → AHeap → Prop} {σ : Fr} {h : AHeap} {X : Type} (F : X → Fr) (H : X → AHeap) (μ : X → Nat) (I : X → Prop) (x0 : X) (h1 : I x0) (h2 : (F x0).le σ) (h3 : (H x0).sub h)
    (h4 : ∀ x, I x → vc T s (fun e σ' h' => match e with | .normal => ∃ x', I x' ∧ (F x').le σ' ∧ (H x').sub h' ∧ μ x' < μ x | e => K e σ' h') E (F x) (H x)) : vc T (.loop s) K E σ h :=
  ⟨X, F, H, μ, I, x0, h1, h2, h3, h4⟩

theorem le_mk {l : List (Nat × D)} {σ : Fr} (h : ∀ p ∈ l, σ.env p.1 = p.2) (hd : σ.defs = []) : (mkFr l).le σ := by
  refine ⟨fun i => ?_, by rw [hd]; rfl⟩
  simp only [mkFr]
  induction l with
  | nil => exact .inl rfl
  | cons p l ih =>
    obtain ⟨j, d⟩ := p
    simp only [lookupD]
    by_cases e : i = j
    · subst e
      rw [if_pos rfl]
      exact .inr (h (i, d) (by simp)).symm
    · rw [if_neg e]
      exact ih fun p hp => h p (by simp [hp])
/-- A frame of a few slots, told of another one. -/
def leL : List (Nat × D) → Fr → Prop
  | [], σ => σ.defs = []
  | (j, d) :: l, σ => σ.env j = d ∧ leL l σ
theorem leL_nil {σ : Fr} : leL [] σ = (σ.defs = []) := rfl
theorem leL_cons {j : Nat} {d : D} {l : List (Nat × D)} {σ : Fr} : leL ((j, d) :: l) σ = (σ.env j = d ∧ leL l σ) := rfl
theorem leL_le : ∀ {l : List (Nat × D)} {σ : Fr}, leL l σ → (mkFr l).le σ
  | [], σ, h => le_mk (fun p hp => by simp at hp) h
  | (j, d) :: l, σ, h => by
    have ih := leL_le h.2
    refine ⟨fun i => ?_, ih.2⟩
    simp only [mkFr, lookupD]
    by_cases e : i = j
    · subst e; rw [if_pos rfl]; exact .inr h.1.symm
    · rw [if_neg e]; exact ih.1 i
theorem AHeap.sub_of_eq {h h' : AHeap} (e : h' = h) : h'.sub h := by subst e; exact AHeap.sub_refl _
theorem sub_emp {h : AHeap} : AHeap.emp.sub h := AHeap.emp_sub h
/-- The rule of a loop: the slots that count. -/
theorem vc_for {T : Tab} {s : Stm} {K : Ex → Fr → AHeap → Prop} {E : List DDef → D → AHeap → Prop} {σ : Fr} {h : AHeap} {X : Type} (F : X → List (Nat × D)) (H : X → AHeap) (μ : X → Nat) (I : X → Prop) (x0 : X) (h1 : I x0) (h2 : leL (F x0) σ) (h3 : (H x0).sub h)
    (h4 : ∀ x, I x → vc T s (fun e σ' h' => match e with | .normal => ∃ x', I x' ∧ leL (F x') σ' ∧ (H x').sub h' ∧ μ x' < μ x | e => K e σ' h') E (mkFr (F x)) (H x)) : vc T (.loop s) K E σ h :=
  ⟨X, fun x => mkFr (F x), H, μ, I, x0, h1, leL_le h2, h3, fun x hx => vc_mono (fun e σ h k => by
    cases e with
    | normal => obtain ⟨x', a, b, c⟩ := k; exact ⟨x', a, leL_le b, c⟩
    | _ => exact k) (fun _ _ _ k => k) (h4 x hx)⟩
theorem le_nil {σ : Fr} (hd : σ.defs = []) : (mkFr []).le σ := le_mk (fun p hp => by simp at hp) hd
theorem le_cons {j : Nat} {d : D} {l : List (Nat × D)} {σ : Fr} : σ.env j = d → (mkFr l).le σ → (mkFr ((j, d) :: l)).le σ := fun h1 h2 => by
  refine ⟨fun i => ?_, h2.2⟩
  simp only [mkFr, lookupD]
  by_cases e : i = j
  · subst e; rw [if_pos rfl]; exact .inr h1.symm
  · rw [if_neg e]; exact h2.1 i
theorem mkFr_env (l : List (Nat × D)) (i : Nat) : (mkFr l).env i = lookupD l i := rfl
theorem mkFr_defs (l : List (Nat × D)) : (mkFr l).defs = [] := rfl

theorem wrap_i64 {x : Int} (h1 : -9223372036854775808 ≤ x) (h2 : x ≤ 9223372036854775807) : IntKind.i64.wrap x = x := by
  simp [IntKind.wrap, IntKind.bits, IntKind.signed]
  split <;> omega
theorem wrap_nat {x : Nat} (h2 : x ≤ 9223372036854775807) : IntKind.i64.wrap (x : Int) = x := wrap_i64 (by omega) (by omega)
theorem wrap_succ {i : Nat} (h : i < 9223372036854775807) : IntKind.i64.wrap ((i : Int) + 1) = ((i + 1 : Nat) : Int) := by rw [wrap_i64 (by omega) (by omega)]; omega
theorem wrap_add {i j : Nat} (h : i + j ≤ 9223372036854775807) : IntKind.i64.wrap ((i : Int) + (j : Int)) = ((i + j : Nat) : Int) := by rw [wrap_i64 (by omega) (by omega)]; omega
theorem wrap_u64 {x : Int} (h1 : 0 ≤ x) (h2 : x ≤ 18446744073709551615) : IntKind.u64.wrap x = x := by
  simp [IntKind.wrap, IntKind.bits, IntKind.signed]
  omega
theorem wrap_u8 (x : Int) : IntKind.u8.wrap x = x % 256 := by simp [IntKind.wrap, IntKind.bits, IntKind.signed]
theorem wrap_u64_mod (x : Int) : IntKind.u64.wrap x = x % 18446744073709551616 := by simp [IntKind.wrap, IntKind.bits, IntKind.signed]
theorem byte_wrap (n : Nat) : ((UInt8.ofNat n).toNat : Int) = (n : Int) % 256 := by simp
/-- Nothing is known of calls. -/
def Tab.zero : Tab := ⟨fun _ _ => .none, fun _ => .none, fun _ _ _ _ _ => False, fun _ _ _ _ _ _ _ _ _ h => h⟩
theorem Tab.zero_ok [Globs] (P : Program) : Tab.zero.ok P := ⟨fun _ _ _ h => (by cases h), fun _ _ _ h => (by cases h), fun _ _ _ _ _ h => h.elim⟩

/-- One function more: of plain data. -/
def Tab.addQ (T : Tab) (f : FuncId) (q : List D → Option D) : Tab := { T with q := fun g args => if g = f then q args else T.q g args }
theorem Tab.addQ_ok [Globs] {P : Program} {T : Tab} (hT : T.ok P) {f : FuncId} {q : List D → Option D} (hq : ∀ args d, q args = some d → PCall P f args d) : (T.addQ f q).ok P :=
  ⟨fun g args d h => by
    simp only [Tab.addQ] at h
    split at h
    · rename_i e; subst e; exact .inl (hq args d h)
    · exact hT.q g args d h, hT.a, hT.c⟩
/-- One function more that the model answers at once. -/
theorem Tab.addX_ok [Globs] {P : Program} {T : Tab} (hT : T.ok P) {f : FuncId} {q : List D → Option D} (hq : ∀ args d, q args = some d → XCall P f args d) : (T.addQ f q).ok P :=
  ⟨fun g args d h => by
    simp only [Tab.addQ] at h
    split at h
    · rename_i e; subst e; exact .inr (hq args d h)
    · exact hT.q g args d h, hT.a, hT.c⟩
/-- One function more: it lays an object. -/
def Tab.addA (T : Tab) (f : FuncId) (ds : List D) : Tab := { T with a := fun g => if g = f then some ds else T.a g }
theorem Tab.addA_ok [Globs] {P : Program} {T : Tab} (hT : T.ok P) {f : FuncId} {ds : List D} (hq : ∀ h, ACalls P f [] h fun o h' => ∃ id, h.f id = none ∧ o = .ret (.ptr id 1 0) ∧ h' = h.set id (.cells ds)) : (T.addA f ds).ok P :=
  ⟨hT.q, fun g ds' h e => by
    simp only [Tab.addA] at e
    split at e
    · rename_i e1; subst e1; cases e; exact hq h
    · exact hT.a g ds' h e, hT.c⟩
/-- One function more: what it does to the heap is told by a relation. -/
def Tab.addC (T : Tab) (f : FuncId) (r : List D → AHeap → Option (AOut × AHeap)) : Tab :=
  { T with
    c := fun g args h K E => if g = f then ∃ o h', r args h = some (o, h') ∧ AOut.to K E o h' else T.c g args h K E
    mono := fun g args h K E K' E' hk he => by
      split
      · rintro ⟨o, h', e, x⟩
        refine ⟨o, h', e, ?_⟩
        cases o with
        | ret d => exact hk _ _ x
        | panic d => exact he _ _ x
      · exact T.mono g args h K E K' E' hk he }
theorem Tab.addC_ok [Globs] {P : Program} {T : Tab} (hT : T.ok P) {f : FuncId} {r : List D → AHeap → Option (AOut × AHeap)} (hr : ∀ args h o h', r args h = some (o, h') → ACalls P f args h fun o1 h1 => o1 = o ∧ h1 = h') : (T.addC f r).ok P :=
  ⟨hT.q, hT.a, fun g args h K E x => by
    simp only [Tab.addC] at x
    split at x
    · rename_i e
      subst e
      obtain ⟨o, h', e, x⟩ := x
      exact (hr args h o h' e).mono fun o1 h1 ⟨e1, e2⟩ => by subst e1; subst e2; exact x
    · exact hT.c g args h K E x⟩
/-- One function more: by what it asks. -/
def Tab.addW (T : Tab) (f : FuncId) (c : List D → AHeap → (D → AHeap → Prop) → Prop) (m : ∀ args h (K K' : D → AHeap → Prop), (∀ d h, K d h → K' d h) → c args h K → c args h K') : Tab :=
  { T with
    c := fun g args h K E => if g = f then c args h K else T.c g args h K E
    mono := fun g args h K E K' E' hk he => by
      split
      · exact m args h K K' hk
      · exact T.mono g args h K E K' E' hk he }
theorem Tab.addW_ok [Globs] {P : Program} {T : Tab} (hT : T.ok P) {f : FuncId} {c : List D → AHeap → (D → AHeap → Prop) → Prop} {m : ∀ args h (K K' : D → AHeap → Prop), (∀ d h, K d h → K' d h) → c args h K → c args h K'}
    (hc : ∀ args h K, c args h K → ACalls P f args h fun o h' => ∃ d, o = .ret d ∧ K d h') : (T.addW f c m).ok P :=
  ⟨hT.q, hT.a, fun g args h K E x => by
    simp only [Tab.addW] at x
    split at x
    · rename_i e
      subst e
      exact (hc args h K x).mono fun o h' ⟨d, e, k⟩ => by subst e; exact k
    · exact hT.c g args h K E x⟩

/-- What a function's body asks, at its end. -/
def retS (rs : List ResI) (K : D → AHeap → Prop) (e : Ex) (σ : Fr) (h : AHeap) : Prop :=
  match e with
  | .exit _ => False
  | _ => σ.defs = [] ∧ ∃ ds, evRes σ h rs = some ds ∧ K (tup ds) h
theorem retS_ret {rs : List ResI} {K : D → AHeap → Prop} {σ : Fr} {h : AHeap} : retS rs K .ret σ h = (σ.defs = [] ∧ ∃ ds, evRes σ h rs = some ds ∧ K (tup ds) h) := rfl
theorem retS_normal {rs : List ResI} {K : D → AHeap → Prop} {σ : Fr} {h : AHeap} : retS rs K .normal σ h = (σ.defs = [] ∧ ∃ ds, evRes σ h rs = some ds ∧ K (tup ds) h) := rfl
/-- One function more: by its own body. -/
def Tab.addS (T : Tab) (f : FuncId) (s : Stm) (rs : List ResI) (m : Nat) : Tab :=
  { T with
    c := fun g args h K E => if g = f then args.length ≤ m ∧ vc T s (retS rs K) (fun ds d h => ds = [] ∧ E d h) (argFr args) h else T.c g args h K E
    mono := fun g args h K E K' E' hk he => by
      split
      · exact fun x => ⟨x.1, vc_mono (fun e σ h k => by
          cases e with
          | exit i => exact k
          | _ => obtain ⟨a, ds, b, c⟩ := k; exact ⟨a, ds, b, hk _ _ c⟩) (fun ds d h k => ⟨k.1, he _ _ k.2⟩) x.2⟩
      · exact T.mono g args h K E K' E' hk he }
theorem Tab.addS_ok [Globs] {P : Program} {T : Tab} (hT : T.ok P) {f : FuncId} {s : Stm} {rs : List ResI} {m : Nat} {pl : Plan} (hs : stmOf P f pl = some (s, rs, m)) : (T.addS f s rs m).ok P :=
  ⟨hT.q, hT.a, fun g args h K E x => by
    simp only [Tab.addS] at x
    split at x
    · rename_i e
      subst e
      refine ACalls.of_stm hT hs x.1 (vc_mono (fun e σ h k => ?_) (fun ds d h k => ⟨k.1, h, AHeap.sub_refl h, k.2⟩) x.2)
      cases e with
      | exit i => exact k
      | _ => obtain ⟨a, ds, b, c⟩ := k; exact ⟨a, ds, b, .inl ⟨h, AHeap.sub_refl h, c⟩⟩
    · exact hT.c g args h K E x⟩
theorem Tab.addS_c {T : Tab} {f : FuncId} {s : Stm} {rs : List ResI} {m : Nat} {args : List D} {h : AHeap} {K E : D → AHeap → Prop} : (T.addS f s rs m).c f args h K E = (args.length ≤ m ∧ vc T s (retS rs K) (fun ds d h => ds = [] ∧ E d h) (argFr args) h) := by
  simp only [Tab.addS, if_true]
theorem Tab.addS_c' {T : Tab} {f g : FuncId} {s : Stm} {rs : List ResI} {m : Nat} {args : List D} {h : AHeap} {K E : D → AHeap → Prop} (hne : (g == f) = false) : (T.addS f s rs m).c g args h K E = T.c g args h K E := by
  simp only [Tab.addS]; rw [if_neg (by simpa using hne)]
/-- The form in which a function's contract is best proved: what it does, told by K. -/
theorem ACalls.of_K [Globs] {P : Program} {T : Tab} (hT : T.ok P) {f : FuncId} {s : Stm} {rs : List ResI} {m : Nat} {pl : Plan} {args : List D} {h : AHeap} {K : D → AHeap → Prop} (hs : stmOf P f pl = some (s, rs, m)) (hn : args.length ≤ m)
    (hv : vc T s (retS rs K) (fun _ _ _ => False) (argFr args) h) : ACalls P f args h fun o h' => ∃ d, o = .ret d ∧ K d h' := by
  refine ACalls.of_stm hT hs hn (vc_mono (fun e σ h k => ?_) (fun ds d h k => k.elim) hv)
  cases e with
  | exit i => exact k
  | _ => obtain ⟨a, ds, b, c⟩ := k; exact ⟨a, ds, b, .inl ⟨h, AHeap.sub_refl h, _, rfl, c⟩⟩
end Go.Proofs.YthpgepillaeldaaDoor.Zz
