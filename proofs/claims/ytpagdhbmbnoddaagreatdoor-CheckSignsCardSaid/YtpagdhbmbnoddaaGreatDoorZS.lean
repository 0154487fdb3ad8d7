/- Regions whose order of evaluation is drawn: one order tells them all. -/
import Derived.Test.YtpagdhbmbnoddaaGreatDoorZR
set_option linter.unnecessarySimpa false
set_option linter.unusedVariables false
set_option linter.unusedSimpArgs false
namespace Go.Proofs.YtpagdhbmbnoddaaGreatDoor.Zz
variable {P : Program} {T : Tab} {κ : Kap} {h : AHeap} {w : World} {σ : Fr} {n : Nat} {a : Act}
def Ins.opds {α : Type} : Ins α → List α
  | .mov x => [x]
  | .pick c a b => [c, a, b]
  | .alloc ds => []
  | .box x => [x]
  | .build zs ps => ps.map (·.2.2)
  | .buildSlice sz zs n ps r => ps.map (·.2)
  | .load n x => [x]
  | .loadOf n x b => [x, b]
  | .callA f => []
  | .store n x v => [x, v]
  | .storeNe n x v ys => x :: v :: ys
  | .nilCheck x => [x]
  | .bin op x y => [x, y]
  | .eql t n x y => [x, y]
  | .un op x => [x]
  | .conv c x => [x]
  | .arrPtr n x => [x]
  | .farith _ x y => [x, y]
  | .slice k x lo hi mx => x :: (lo.toList ++ hi.toList ++ mx.toList)
  | .fieldAddr o x => [x]
  | .field o n x => [x]
  | .indexAddrA l s x i => [x, i]
  | .indexAddrS s x i => [x, i]
  | .indexA l s n x i => [x, i]
  | .indexS x i => [x, i]
  | .extract x i => [x]
  | .mkIface t x => [x]
  | .mkFunc fn a b => a ++ b
  | .len k x => [x]
  | .len0 k x => [x]
  | .minmax m x y => [x, y]
  | .append sz b t s x => [s, x]
  | .makeSlice sz b zs l c => [l, c]
  | .call f as => f :: as
  | .callR f as => f :: as
  | .callNe f as ys => f :: (as ++ ys)
  | .appendA sz b t s x ys => s :: x :: ys
  | .storeB n x v => [x, v]
  | .qcall f as => f :: as
  | .panic x => [x]
  | .defer f as => f :: as
  | .typeAssert t ok z x => [x]
  | .makeMap => []
  | .lookup z ok m k => [m, k]
  | .mapUpdate m k v => [m, k, v]
  | .delete m k => [m, k]
  | .isNil n x => [x]
  | .srange x => [x]
  | .snext x => [x]
theorem Ins.map_congr {α β : Type} {f g : α → β} {i : Ins α} (e : ∀ x ∈ i.opds, f x = g x) : i.map f = i.map g := by
  cases i <;> simp only [Ins.opds, Ins.map] at e ⊢
  case build zs ps => congr 1; exact List.map_congr_left fun p hp => by rw [e p.2.2 (List.mem_map.2 ⟨p, hp, rfl⟩)]
  case buildSlice sz zs n ps r => congr 1; exact List.map_congr_left fun p hp => by rw [e p.2 (List.mem_map.2 ⟨p, hp, rfl⟩)]
  case slice k x lo hi mx =>
    rw [e x (by simp)]
    congr 1
    · cases lo with
      | none => rfl
      | some z => simp only [Option.map_some]; rw [e z (by simp)]
    · cases hi with
      | none => rfl
      | some z => simp only [Option.map_some]; rw [e z (by simp)]
    · cases mx with
      | none => rfl
      | some z => simp only [Option.map_some]; rw [e z (by simp)]
  case mkFunc fn a b => congr 1 <;> exact List.map_congr_left fun p hp => e p (by simp [hp])
  case storeNe n x v ys => rw [e x (by simp), e v (by simp)]; congr 1; exact List.map_congr_left fun p hp => e p (by simp [hp])
  case call f as => rw [e f (by simp)]; congr 1; exact List.map_congr_left fun p hp => e p (by simp [hp])
  case callR f as => rw [e f (by simp)]; congr 1; exact List.map_congr_left fun p hp => e p (by simp [hp])
  case appendA sz b t s x ys => rw [e s (by simp), e x (by simp)]; congr 1; exact List.map_congr_left fun p hp => e p (by simp [hp])
  case callNe f as ys => rw [e f (by simp)]; congr 1 <;> exact List.map_congr_left fun p hp => e p (by simp [hp])
  case qcall f as => rw [e f (by simp)]; congr 1; exact List.map_congr_left fun p hp => e p (by simp [hp])
  case defer f as => rw [e f (by simp)]; congr 1; exact List.map_congr_left fun p hp => e p (by simp [hp])
  all_goals simp_all
def OpI.looks (o : OpI) : List Nat :=
  (o.i.opds.filterMap fun | .t n => some n | _ => none) ++ (match o.g with | some (t, _) => [t] | none => [])
def OpI.apart (x y : OpI) : Bool :=
  (match x.d with
   | some t => !(y.looks.contains t) && !(y.d == some t)
   | none => true) &&
  (match y.d with
   | some t => !(x.looks.contains t)
   | none => true)
theorem OpI.apart_spec {x y : OpI} (e : x.apart y = true) : (∀ t, x.d = some t → t ∉ y.looks) ∧ (∀ t, x.d = some t → y.d ≠ some t) ∧ (∀ t, y.d = some t → t ∉ x.looks) := by
  refine ⟨fun t ht => ?_, fun t ht => ?_, fun t ht => ?_⟩ <;> simp [OpI.apart, ht] at e
  · exact e.1.1
  · exact e.1.2
  · exact e.2
theorem opB_put {o : OpI} {K E : D → AHeap → Prop} {dst : Option Nat} {d : D} (hl : ∀ t, dst = some t → t ∉ o.looks) : opB T o K E (σ.put dst d) h ↔ opB T o K E σ h := by
  cases dst with
  | none => rfl
  | some t =>
    have hl' := hl t rfl
    have e1 : o.i.map (σ.put (some t) d).ev = o.i.map σ.ev := Ins.map_congr fun x hx => by
      cases x with
      | t j =>
        have : j ≠ t := fun e => hl' (by subst e; exact List.mem_append_left _ (List.mem_filterMap.2 ⟨_, hx, rfl⟩))
        simp [Fr.ev, this]
      | _ => rfl
    unfold opB
    cases hg : o.g with
    | none => simp only [e1]
    | some tw =>
      obtain ⟨t', want⟩ := tw
      have : t' ≠ t := fun e => hl' (by subst e; simp [OpI.looks, hg])
      simp only [e1, Fr.put_some, this, if_false]
theorem put_comm {x y : Option Nat} {d e : D} (hne : ∀ t, x = some t → y ≠ some t) : (σ.put x d).put y e = (σ.put y e).put x d := by
  cases x with
  | none => rfl
  | some t =>
    cases y with
    | none => rfl
    | some u =>
      have : t ≠ u := fun e => hne t rfl (by rw [e])
      refine Fr.ext (fun i => ?_) rfl
      simp only [Fr.put_some]
      by_cases h1 : i = u <;> by_cases h2 : i = t <;> simp_all
def OpI.kind (o : OpI) : Nat :=
  match o.p with
  | true => 0
  | false => match o.i with
    | .load .. | .loadOf .. | .slice .. | .indexAddrS .. => 1
    | .conv .bytesStr _ => 1
    | .qcall .. => 2
    | .alloc .. => 3
    | .box .. => 4
    | .storeNe .. => 6
    | .callA _ => 7
    | .callNe .. => 8
    | .appendA .. => 9
    | _ => 5
def neOk : Ins Opd → Ins Opd → Bool
  | .load _ (.t m), .storeNe _ _ _ ys | .loadOf _ _ (.t m), .storeNe _ _ _ ys => ys.any fun | .t k => m == k | _ => false
  | _, _ => false
def ckOk : Ins Opd → Ins Opd → Bool
  | .load _ (.t m), .callNe _ _ ys | .loadOf _ _ (.t m), .callNe _ _ ys => ys.any fun | .t k => m == k | _ => false
  | _, _ => false
def akOk : Ins Opd → Ins Opd → Bool
  | .load _ (.t m), .appendA _ _ _ _ _ ys | .loadOf _ _ (.t m), .appendA _ _ _ _ _ ys => ys.any fun | .t k => m == k | _ => false
  | _, _ => false
def swapC (x y : OpI) : Bool :=
  match x.kind, y.kind with
  | 0, _ => true
  | 1, 0 | 1, 1 | 1, 2 | 1, 3 | 1, 4 | 1, 7 => true
  | 2, 3 => y.g.isNone
  | 1, 6 => neOk x.i y.i
  | 1, 8 => ckOk x.i y.i
  | 1, 9 => akOk x.i y.i
  | _, _ => false
def valR (h : AHeap) : Ins D → Option D
  | .load n x => loadD h n x
  | .loadOf n x b => if objSame x b = true then loadD h n x else none
  | .conv c x => readEv h (.conv c x)
  | .slice k x lo hi mx => match x with
    | .row .. => readEv h (.slice k x lo hi mx)
    | _ => pureEv (.slice k x lo hi mx)
  | .indexAddrS sz x i => match x with
    | .row .. => readEv h (.indexAddrS sz x i)
    | _ => pureEv (.indexAddrS sz x i)
  | _ => none
def OpI.val (o : OpI) (σ : Fr) (h : AHeap) : Option D :=
  match o.p with
  | true => valP (o.i.map σ.ev)
  | false => valR h (o.i.map σ.ev)
def OpI.resV (o : OpI) (σ : Fr) (h : AHeap) : Option D :=
  match o.g with
  | none => o.val σ h
  | some (t, want) => match σ.env t with
    | .bool b => if b = want then o.val σ h else some (.tuple [])
    | .tuple [] => some (.tuple [])
    | _ => none
theorem val_iff {o : OpI} (hk : o.kind ≤ 1) {K E : D → AHeap → Prop} : vcO T o.p (o.i.map σ.ev) h K E ↔ ∃ d, o.val σ h = some d ∧ K d h := by
  unfold OpI.val vcO
  cases hp : o.p with
  | true => rfl
  | false =>
    simp only
    unfold OpI.kind at hk
    rw [hp] at hk
    simp only at hk
    split at hk
    · rename_i e; rw [e]; rfl
    · rename_i e; rw [e]; rfl
    · rename_i x lo hi mx e; rw [e]; simp only [Ins.map, vcI, valR]; generalize σ.ev x = dx; cases dx <;> rfl
    · rename_i x i e; rw [e]; simp only [Ins.map, vcI, valR]; generalize σ.ev x = dx; cases dx <;> rfl
    · rename_i e; rw [e]; rfl
    all_goals omega
theorem resV_iff {o : OpI} (hk : o.kind ≤ 1) {K E : D → AHeap → Prop} : opB T o K E σ h ↔ ∃ d, o.resV σ h = some d ∧ K d h := by
  unfold opB OpI.resV
  cases hg : o.g with
  | none => exact val_iff hk
  | some tw =>
    obtain ⟨t, want⟩ := tw
    simp only
    generalize σ.env t = dt
    cases dt with
    | bool b =>
      simp only
      by_cases e : b = want
      · rw [if_pos e]
        constructor
        · intro hv; exact (val_iff hk).1 (hv.1 e)
        · intro hv
          refine ⟨fun _ => (val_iff hk).2 hv, fun e' => ?_⟩
          rw [e] at e'
          cases want <;> cases e'
      · rw [if_neg e]
        have e' : b = !want := by cases b <;> cases want <;> first | rfl | exact absurd rfl e
        constructor
        · intro hv; exact ⟨_, rfl, hv.2 e'⟩
        · rintro ⟨d, h1, h2⟩
          cases h1
          exact ⟨fun x => absurd x e, fun _ => h2⟩
    | tuple ds =>
      cases ds with
      | nil =>
        constructor
        · intro hv; exact ⟨_, rfl, hv⟩
        · rintro ⟨d, h1, h2⟩; cases h1; exact h2
      | cons d ds =>
        constructor
        · intro hv; exact hv.elim
        · rintro ⟨d, h1, h2⟩; cases h1
    | _ =>
      constructor
      · intro hv; exact hv.elim
      · rintro ⟨d, h1, h2⟩; cases h1
def Stab (h h' : AHeap) : Prop := ∀ id o, h.f id = some o → h'.f id = some o ∨ ∃ sz ver xs fz fz', o = .row sz ver xs fz ∧ h'.f id = some (.row sz ver xs fz')
theorem Stab.set {id : Nat} {o : AObj} (hid : h.f id = none) : Stab h (h.set id o) := fun i oi e => .inl (by
  have : i ≠ id := fun x => by subst x; rw [hid] at e; cases e
  simp [this, e])
theorem Stab.frzL (ds : List D) : Stab h (frzL h ds) := fun id o e => by
  rw [frzL_eq]
  have := SameRows.frzs h (ds.flatMap rowIds) id
  cases o with
  | row sz ver xs fz => obtain ⟨fz', h1, _⟩ := this.1 sz ver xs fz e; exact .inr ⟨sz, ver, xs, fz, fz', rfl, h1⟩
  | _ => exact .inl (by rw [this.2 (by simp [e]), e])
theorem Stab.lent {d : D} (ds : List D) : Stab h (lentH d h (Go.Proofs.YtpagdhbmbnoddaaGreatDoor.Zz.frzL h ds)) := by
  unfold lentH
  cases scalar d with
  | true => exact fun id o e => Stab.frzL [] id o e
  | false => exact Stab.frzL ds
theorem loadD_stab {h' : AHeap} (s : Stab h h') {k : Option Nat} {x d : D} (e : loadD h k x = some d) : loadD h' k x = some d := by
  unfold loadD at *
  split at e
  · split at e
    · rename_i o ho
      rcases s _ _ ho with h1 | ⟨_, _, _, _, _, h1, _⟩
      · simp only [h1]; exact e
      · cases h1
    · cases e
  · exact e
  · split at e
    · rename_i o ho
      rcases s _ _ ho with h1 | ⟨_, _, _, _, _, h1, h2⟩
      · simp only [h1]; exact e
      · cases h1; simp only [h2]; exact e
    · rename_i o ho
      rcases s _ _ ho with h1 | ⟨_, _, _, _, _, h1, h2⟩
      · simp only [h1]; exact e
      · cases h1
    · cases e
  · cases e
theorem elemsOf_stab {h' : AHeap} (s : Stab h h') {x : D} {xs : List (List D)} (e : elemsOf h x = some xs) : elemsOf h' x = some xs := by
  unfold elemsOf at *
  split at e
  · exact e
  · exact e
  · split at e
    · rename_i o ho
      rcases s _ _ ho with h1 | ⟨_, _, _, _, _, h1, h2⟩
      · simp only [h1]; exact e
      · cases h1; simp only [h2]; exact e
    · cases e
  · split at e
    · rename_i o ho
      rcases s _ _ ho with h1 | ⟨_, _, _, _, _, h1, _⟩
      · simp only [h1]; exact e
      · cases h1
    · cases e
  · cases e
theorem valR_stab {h' : AHeap} (s : Stab h h') {i : Ins D} {d : D} (e : valR h i = some d) : valR h' i = some d := by
  have row : ∀ {r : Nat} {f : Option AObj → Option D}, (∀ o, f (some o) ≠ none → ∃ sz ver xs fz, o = .row sz ver xs fz) → f none = none → (∀ sz ver xs fz fz', f (some (.row sz ver xs fz)) = f (some (.row sz ver xs fz'))) → f (h.f r) = some d → f (h'.f r) = some d := fun {r f} h1 h2 h3 h4 => by
    cases ho : h.f r with
    | none => rw [ho, h2] at h4; cases h4
    | some o =>
      rw [ho] at h4
      obtain ⟨sz, ver, xs, fz, rfl⟩ := h1 o (by rw [h4]; simp)
      rcases s _ _ ho with g | ⟨_, _, _, _, fz', g1, g2⟩
      · rw [g]; exact h4
      · cases g1; rw [g2, ← h3 _ _ _ fz]; exact h4
  cases i with
  | load n x => exact loadD_stab s e
  | loadOf n x b =>
    simp only [valR] at e ⊢
    split at e
    · rename_i hs; rw [if_pos hs]; exact loadD_stab s e
    · cases e
  | conv c x =>
    simp only [valR, readEv] at e ⊢
    cases c <;> first | (cases e; done) | skip
    simp only at e ⊢
    split at e
    · rename_i xs hx
      simp only [elemsOf_stab s hx]
      exact e
    · cases e
  | slice k x lo hi mx =>
    simp only [valR] at e ⊢
    cases x <;> first | exact e | skip
    rename_i r ver off len
    simp only [readEv] at e ⊢
    cases k <;> cases mx <;> first | (cases e; done) | skip
    rename_i sz
    simp only at e ⊢
    exact row (f := fun o => match o with | some (.row sz' ver' xs fz) => if sz' = sz ∧ ver' = ver then (bounds len lo hi).map fun b => .row r ver (off + b.1) (b.2 - b.1) else none | _ => none) (fun o ho => by cases o <;> first | exact ⟨_, _, _, _, rfl⟩ | exact absurd rfl ho) rfl (fun _ _ _ _ _ => rfl) e
  | indexAddrS sz x i =>
    simp only [valR] at e ⊢
    cases x <;> first | exact e | skip
    rename_i r ver off len
    simp only [readEv] at e ⊢
    cases i <;> first | (cases e; done) | skip
    rename_i kk i
    simp only at e ⊢
    split at e
    · rename_i o ho
      rcases s _ _ ho with h1 | ⟨_, _, _, _, _, h1, h2⟩
      · simp only [h1]; exact e
      · cases h1; simp only [h2]; exact e
    · rename_i o ho
      rcases s _ _ ho with h1 | ⟨_, _, _, _, _, h1, h2⟩
      · simp only [h1]; exact e
      · cases h1
    · cases e
  | _ => cases e
theorem resV_stab {h' : AHeap} (s : Stab h h') {o : OpI} {d : D} (e : o.resV σ h = some d) : o.resV σ h' = some d := by
  have v : ∀ {d}, o.val σ h = some d → o.val σ h' = some d := fun e => by
    unfold OpI.val at *
    cases hp : o.p with
    | true => simp only [hp] at e ⊢; exact e
    | false => simp only [hp] at e ⊢; exact valR_stab s e
  unfold OpI.resV at *
  cases hg : o.g with
  | none => simp only [hg] at e ⊢; exact v e
  | some tw =>
    obtain ⟨t, want⟩ := tw
    simp only [hg] at e ⊢
    generalize σ.env t = dt at e ⊢
    cases dt with
    | bool b =>
      simp only at e ⊢
      by_cases eb : b = want
      · rw [if_pos eb] at e ⊢; exact v e
      · rw [if_neg eb] at e ⊢; exact e
    | tuple ds => cases ds <;> exact e
    | _ => cases e
theorem opB_stab {o : OpI} (hk : o.kind = 2 ∨ o.kind = 3 ∨ o.kind = 4 ∨ o.kind = 7) {K E E' : D → AHeap → Prop} (hv : opB T o K E σ h) : opB T o (fun d h' => Stab h h' ∧ K d h') E' σ h := by
  have refl : Stab h h := fun id o e => .inl e
  have v : vcO T o.p (o.i.map σ.ev) h K E → vcO T o.p (o.i.map σ.ev) h (fun d h' => Stab h h' ∧ K d h') E' := fun hv => by
    unfold OpI.kind at hk
    cases hp : o.p with
    | true => rw [hp] at hk; simp at hk
    | false =>
      rw [hp] at hk hv
      simp only at hk
      simp only [vcO] at hv ⊢
      split at hk
      all_goals first
        | (exfalso; omega)
        | skip
      · rename_i e
        rw [e] at hv ⊢
        simp only [Ins.map, vcI] at hv ⊢
        split at hv
        · obtain ⟨d, e, x⟩ := hv; exact ⟨d, e, Stab.lent _, x⟩
        · exact hv.elim
      · rename_i e
        rw [e] at hv ⊢
        exact fun id hid => ⟨Stab.set hid, hv id hid⟩
      · rename_i e
        rw [e] at hv ⊢
        exact ⟨hv.1, fun id hid => ⟨Stab.set hid, hv.2 id hid⟩⟩
      · rename_i e
        rw [e] at hv ⊢
        obtain ⟨ds, q1, q2⟩ := hv
        exact ⟨ds, q1, fun id hid => ⟨Stab.set hid, q2 id hid⟩⟩
  unfold opB at *
  cases hg : o.g with
  | none => simp only [hg] at hv ⊢; exact v hv
  | some tw =>
    obtain ⟨t, want⟩ := tw
    simp only [hg] at hv ⊢
    split at hv
    · exact ⟨fun e => v (hv.1 e), fun e => ⟨refl, hv.2 e⟩⟩
    · exact ⟨refl, hv⟩
    · exact hv.elim
theorem objNe_same {x y b : D} (h1 : objNe x b = true) (h2 : objSame y b = true) : objNe x y = true := by
  unfold objSame at h2
  split at h2
  all_goals first
    | (cases h2; done)
    | (cases x <;> rfl)
    | (simp only [beq_iff_eq] at h2
       subst h2
       cases x <;> first | exact h1 | (simp [objNe] at h1; done))
theorem load_keep {h h' : AHeap} {n : Nat} {x0 v y0 d : D} {k : Option Nat} (hob : objNe x0 y0 = true) (hst : storeD h n x0 v = some h') (hd : loadD h k y0 = some d) : loadD h' k y0 = some d := by
  unfold storeD at hst
  split at hst
  · have set : ∀ (i : Nat) (o : AObj), (∀ j w f, y0 = .ptr j w f → j ≠ i) → (∀ j w q f, y0 = .rptr j w q f → j ≠ i) → loadD (h.set i o) k y0 = some d := fun i o q1 q2 => by
      cases y0 with
      | ptr j w f => simp only [loadD, AHeap.set_f, if_neg (q1 j w f rfl)] at hd ⊢; exact hd
      | rptr j w q f => simp only [loadD, AHeap.set_f, if_neg (q2 j w q f rfl)] at hd ⊢; exact hd
      | eptr => exact hd
      | _ => simp [loadD] at hd
    split at hst
    · split at hst
      · split at hst
        · cases hst
          refine set _ _ (fun j w f e => ?_) (fun j w q f e => ?_)
          · subst e; simp [objNe] at hob; exact fun e => hob e.symm
          · subst e; simp [objNe] at hob; exact fun e => hob e.symm
        · cases hst
      · cases hst
    · split at hst
      · split at hst
        · split at hst
          · split at hst
            · cases hst
              refine set _ _ (fun j w f e => ?_) (fun j w q f e => ?_)
              · subst e; simp [objNe] at hob; exact fun e => hob e.symm
              · subst e; simp [objNe] at hob; exact fun e => hob e.symm
            · cases hst
          · cases hst
        · cases hst
      · cases hst
    · cases hst
  · cases hst
theorem load_kept {h h' : AHeap} {x : D} {k : Option Nat} (hk : keptAt h h' x) : loadD h' k x = loadD h k x := by
  cases x <;> first | exact hk.elim | rfl | (simp only [keptAt] at hk; simp only [loadD, hk])
theorem kept_same {h h' : AHeap} {x b : D} (hk : keptAt h h' b) (hs : objSame x b = true) : keptAt h h' x := by
  unfold objSame at hs
  split at hs
  all_goals first
    | (cases hs; done)
    | trivial
    | (simp only [beq_iff_eq] at hs
       subst hs
       exact hk)
theorem opB_swap {x y : OpI} (hs : swapC x y = true) {K : D → D → AHeap → Prop} {E : D → AHeap → Prop} (hv : opB T x (fun d h1 => opB T y (fun e h2 => K d e h2) E σ h1) E σ h) :
    opB T y (fun e h1 => opB T x (fun d h2 => K d e h2) E σ h1) E σ h := by
  unfold swapC at hs
  have hk0 : x.kind = 0 → opB T y (fun e h1 => opB T x (fun d h2 => K d e h2) E σ h1) E σ h := fun hx => by
    obtain ⟨d, h1, h2⟩ := (resV_iff (by omega)).1 hv
    refine opB_mono (fun e h' k => (resV_iff (by omega)).2 ⟨d, ?_, k⟩) (fun _ _ k => k) h2
    have hp : x.p = true := by
      unfold OpI.kind at hx
      cases hp : x.p with
      | true => rfl
      | false => rw [hp] at hx; simp only at hx; split at hx <;> omega
    unfold OpI.resV OpI.val at *
    rw [hp] at h1 ⊢
    exact h1
  have hk1 : x.kind = 1 → y.kind = 2 ∨ y.kind = 3 ∨ y.kind = 4 ∨ y.kind = 7 → opB T y (fun e h1 => opB T x (fun d h2 => K d e h2) E σ h1) E σ h := fun hx hy => by
    obtain ⟨d, h1, h2⟩ := (resV_iff (by omega)).1 hv
    exact opB_mono (fun e h' ⟨s, k⟩ => (resV_iff (by omega)).2 ⟨d, resV_stab s h1, k⟩) (fun _ _ k => k) (opB_stab (E' := E) hy h2)
  have hk16 : x.kind = 1 → y.kind = 6 → neOk x.i y.i = true → opB T y (fun e h1 => opB T x (fun d h2 => K d e h2) E σ h1) E σ h := fun hx hy hne => by
    obtain ⟨d, h1, h2⟩ := (resV_iff (by omega)).1 hv
    have hxi : ∃ k m c, (x.i = .load k (.t m) ∧ c = Opd.t m ∨ x.i = .loadOf k c (.t m)) ∧ ∃ n a v ys, y.i = .storeNe n a v ys ∧ Opd.t m ∈ ys := by
      unfold neOk at hne
      split at hne
      · rename_i k m n a v ys e1 e2
        refine ⟨k, m, _, .inl ⟨e1, rfl⟩, n, a, v, ys, e2, ?_⟩
        obtain ⟨z, hz, hz2⟩ := List.any_eq_true.1 hne
        cases z with
        | t j => simp at hz2; subst hz2; exact hz
        | _ => simp at hz2
      · rename_i k c m n a v ys e1 e2
        refine ⟨k, m, c, .inr e1, n, a, v, ys, e2, ?_⟩
        obtain ⟨z, hz, hz2⟩ := List.any_eq_true.1 hne
        cases z with
        | t j => simp at hz2; subst hz2; exact hz
        | _ => simp at hz2
      · cases hne
    obtain ⟨k, m, c, e1, n, a, v, ys, e2, hmem⟩ := hxi
    have hyp : y.p = false := by
      unfold OpI.kind at hy
      cases hp : y.p with
      | true => rw [hp] at hy; simp at hy
      | false => rfl
    have hxp : x.p = false := by
      unfold OpI.kind at hx
      cases hp : x.p with
      | true => rw [hp] at hx; simp at hx
      | false => rfl
    have keep : ∀ h', objNe (σ.ev a) (σ.env m) = true → storeD h n (σ.ev a) (σ.ev v) = some h' → x.resV σ h' = some d := fun h' hob hst => by
      have hval : ∀ d, x.val σ h = some d → x.val σ h' = some d := fun d hd => by
        unfold OpI.val at *
        rcases e1 with ⟨e1, _⟩ | e1
        · rw [hxp, e1] at hd ⊢
          simp only [Ins.map, valR, Fr.ev] at hd ⊢
          exact load_keep hob hst hd
        · rw [hxp, e1] at hd ⊢
          simp only [Ins.map, valR] at hd ⊢
          split at hd
          · rename_i hsame
            rw [if_pos hsame]
            exact load_keep (objNe_same hob hsame) hst hd
          · cases hd
      unfold OpI.resV at *
      cases hg : x.g with
      | none => rw [hg] at h1; exact hval _ h1
      | some tw =>
        obtain ⟨t, want⟩ := tw
        rw [hg] at h1
        simp only at h1 ⊢
        generalize σ.env t = dt at h1 ⊢
        cases dt with
        | bool b =>
          simp only at h1 ⊢
          by_cases eb : b = want
          · rw [if_pos eb] at h1 ⊢; exact hval _ h1
          · rw [if_neg eb] at h1 ⊢; exact h1
        | tuple ds => cases ds <;> exact h1
        | _ => cases h1
    have hnew : ∀ (K : D → AHeap → Prop), vcO T y.p (y.i.map σ.ev) h K E → vcO T y.p (y.i.map σ.ev) h (fun e h' => x.resV σ h' = some d ∧ K e h') E := fun K hh => by
      rw [hyp, e2] at hh ⊢
      obtain ⟨q1, h', q2, q3⟩ := hh
      refine ⟨q1, h', q2, keep h' ?_ q2, q3⟩
      exact List.all_eq_true.1 q1 _ (List.mem_map.2 ⟨_, hmem, rfl⟩)
    have h3 : opB T y (fun e h' => x.resV σ h' = some d ∧ K d e h') E σ h := by
      unfold opB at h2 ⊢
      cases hg : y.g with
      | none => rw [hg] at h2; exact hnew _ h2
      | some tw =>
        obtain ⟨t, want⟩ := tw
        rw [hg] at h2
        simp only at h2 ⊢
        split at h2
        · exact ⟨fun e => hnew _ (h2.1 e), fun e => ⟨h1, h2.2 e⟩⟩
        · exact ⟨h1, h2⟩
        · exact h2.elim
    exact opB_mono (fun e h' ⟨s, k⟩ => (resV_iff (by omega)).2 ⟨d, s, k⟩) (fun _ _ k => k) h3
  have hk18 : x.kind = 1 → y.kind = 8 → ckOk x.i y.i = true → opB T y (fun e h1 => opB T x (fun d h2 => K d e h2) E σ h1) E σ h := fun hx hy hne => by
    obtain ⟨d, h1, h2⟩ := (resV_iff (by omega)).1 hv
    have hxi : ∃ k m c, (x.i = .load k (.t m) ∧ c = Opd.t m ∨ x.i = .loadOf k c (.t m)) ∧ ∃ f as ys, y.i = .callNe f as ys ∧ Opd.t m ∈ ys := by
      unfold ckOk at hne
      split at hne
      · rename_i k m f as ys e1 e2
        refine ⟨k, m, _, .inl ⟨e1, rfl⟩, f, as, ys, e2, ?_⟩
        obtain ⟨z, hz, hz2⟩ := List.any_eq_true.1 hne
        cases z with
        | t j => simp at hz2; subst hz2; exact hz
        | _ => simp at hz2
      · rename_i k c m f as ys e1 e2
        refine ⟨k, m, c, .inr e1, f, as, ys, e2, ?_⟩
        obtain ⟨z, hz, hz2⟩ := List.any_eq_true.1 hne
        cases z with
        | t j => simp at hz2; subst hz2; exact hz
        | _ => simp at hz2
      · cases hne
    obtain ⟨k, m, c, e1, f, as, ys, e2, hmem⟩ := hxi
    have hyp : y.p = false := by
      unfold OpI.kind at hy
      cases hp : y.p with
      | true => rw [hp] at hy; simp at hy
      | false => rfl
    have hxp : x.p = false := by
      unfold OpI.kind at hx
      cases hp : x.p with
      | true => rw [hp] at hx; simp at hx
      | false => rfl
    have keep : ∀ h', keptAt h h' (σ.env m) → x.resV σ h' = some d := fun h' hkp => by
      have hval : ∀ d, x.val σ h = some d → x.val σ h' = some d := fun d hd => by
        unfold OpI.val at *
        rcases e1 with ⟨e1, _⟩ | e1
        · rw [hxp, e1] at hd ⊢
          simp only [Ins.map, valR, Fr.ev] at hd ⊢
          exact (load_kept hkp).trans hd
        · rw [hxp, e1] at hd ⊢
          simp only [Ins.map, valR] at hd ⊢
          split at hd
          · rename_i hsame
            rw [if_pos hsame]
            exact (load_kept (kept_same hkp hsame)).trans hd
          · cases hd
      unfold OpI.resV at *
      cases hg : x.g with
      | none => rw [hg] at h1; exact hval _ h1
      | some tw =>
        obtain ⟨t, want⟩ := tw
        rw [hg] at h1
        simp only at h1 ⊢
        generalize σ.env t = dt at h1 ⊢
        cases dt with
        | bool b =>
          simp only at h1 ⊢
          by_cases eb : b = want
          · rw [if_pos eb] at h1 ⊢; exact hval _ h1
          · rw [if_neg eb] at h1 ⊢; exact h1
        | tuple ds => cases ds <;> exact h1
        | _ => cases h1
    have hnew : ∀ (K : D → AHeap → Prop), vcO T y.p (y.i.map σ.ev) h K E → vcO T y.p (y.i.map σ.ev) h (fun e h' => x.resV σ h' = some d ∧ K e h') E := fun K hh => by
      rw [hyp, e2] at hh ⊢
      simp only [vcO, Ins.map, vcI] at hh ⊢
      split at hh
      · exact T.mono _ _ _ _ _ _ _ (fun e h' k => ⟨k.1, keep h' (k.1 _ (List.mem_map.2 ⟨_, hmem, rfl⟩)), k.2⟩) (fun _ _ k => k) hh
      · exact hh.elim
    have h3 : opB T y (fun e h' => x.resV σ h' = some d ∧ K d e h') E σ h := by
      unfold opB at h2 ⊢
      cases hg : y.g with
      | none => rw [hg] at h2; exact hnew _ h2
      | some tw =>
        obtain ⟨t, want⟩ := tw
        rw [hg] at h2
        simp only at h2 ⊢
        split at h2
        · exact ⟨fun e => hnew _ (h2.1 e), fun e => ⟨h1, h2.2 e⟩⟩
        · exact ⟨h1, h2⟩
        · exact h2.elim
    exact opB_mono (fun e h' ⟨s, k⟩ => (resV_iff (by omega)).2 ⟨d, s, k⟩) (fun _ _ k => k) h3
  have hk19 : x.kind = 1 → y.kind = 9 → akOk x.i y.i = true → opB T y (fun e h1 => opB T x (fun d h2 => K d e h2) E σ h1) E σ h := fun hx hy hne => by
    obtain ⟨d, h1, h2⟩ := (resV_iff (by omega)).1 hv
    have hxi : ∃ k m c, (x.i = .load k (.t m) ∧ c = Opd.t m ∨ x.i = .loadOf k c (.t m)) ∧ ∃ sz by_ st s0 x0 ys, y.i = .appendA sz by_ st s0 x0 ys ∧ Opd.t m ∈ ys := by
      unfold akOk at hne
      split at hne
      · rename_i k m sz by_ st s0 x0 ys e1 e2
        refine ⟨k, m, _, .inl ⟨e1, rfl⟩, sz, by_, st, s0, x0, ys, e2, ?_⟩
        obtain ⟨z, hz, hz2⟩ := List.any_eq_true.1 hne
        cases z with
        | t j => simp at hz2; subst hz2; exact hz
        | _ => simp at hz2
      · rename_i k c m sz by_ st s0 x0 ys e1 e2
        refine ⟨k, m, c, .inr e1, sz, by_, st, s0, x0, ys, e2, ?_⟩
        obtain ⟨z, hz, hz2⟩ := List.any_eq_true.1 hne
        cases z with
        | t j => simp at hz2; subst hz2; exact hz
        | _ => simp at hz2
      · cases hne
    obtain ⟨k, m, c, e1, sz, by_, st, s0, x0, ys, e2, hmem⟩ := hxi
    have hyp : y.p = false := by
      unfold OpI.kind at hy
      cases hp : y.p with
      | true => rw [hp] at hy; simp at hy
      | false => rfl
    have hxp : x.p = false := by
      unfold OpI.kind at hx
      cases hp : x.p with
      | true => rw [hp] at hx; simp at hx
      | false => rfl
    have keep : ∀ h', keptAt h h' (σ.env m) → x.resV σ h' = some d := fun h' hkp => by
      have hval : ∀ d, x.val σ h = some d → x.val σ h' = some d := fun d hd => by
        unfold OpI.val at *
        rcases e1 with ⟨e1, _⟩ | e1
        · rw [hxp, e1] at hd ⊢
          simp only [Ins.map, valR, Fr.ev] at hd ⊢
          exact (load_kept hkp).trans hd
        · rw [hxp, e1] at hd ⊢
          simp only [Ins.map, valR] at hd ⊢
          split at hd
          · rename_i hsame
            rw [if_pos hsame]
            exact (load_kept (kept_same hkp hsame)).trans hd
          · cases hd
      unfold OpI.resV at *
      cases hg : x.g with
      | none => rw [hg] at h1; exact hval _ h1
      | some tw =>
        obtain ⟨t, want⟩ := tw
        rw [hg] at h1
        simp only at h1 ⊢
        generalize σ.env t = dt at h1 ⊢
        cases dt with
        | bool b =>
          simp only at h1 ⊢
          by_cases eb : b = want
          · rw [if_pos eb] at h1 ⊢; exact hval _ h1
          · rw [if_neg eb] at h1 ⊢; exact h1
        | tuple ds => cases ds <;> exact h1
        | _ => cases h1
    have hnew : ∀ (K : D → AHeap → Prop), vcO T y.p (y.i.map σ.ev) h K E → vcO T y.p (y.i.map σ.ev) h (fun e h' => x.resV σ h' = some d ∧ K e h') E := fun K hh => by
      rw [hyp, e2] at hh ⊢
      simp only [vcO, Ins.map, vcI] at hh ⊢
      obtain ⟨q0, es, q1, q2, q3, q4, q5⟩ := hh
      refine ⟨q0, es, q1, q2, q3, q4, ?_⟩
      have hcell : ∃ id v o ds, σ.env m = .ptr id v o ∧ h.f id = some (.cells ds) := by
        have := List.all_eq_true.1 q0 _ (List.mem_map.2 ⟨_, hmem, rfl⟩)
        simp only [Fr.ev] at this
        unfold cellAt at this
        split at this
        · rename_i id v o hp
          split at this
          · rename_i ds hd; exact ⟨id, v, o, ds, hp, hd⟩
          · cases this
        · cases this
      obtain ⟨id, v0, o0, ds0, hpm, hcm⟩ := hcell
      have kp : ∀ i o, i ≠ id → keptAt h (h.set i o) (σ.env m) := fun i o hne => by
        rw [hpm]
        simp only [keptAt, AHeap.set_f]
        rw [if_neg fun e => hne e.symm]
      revert q5
      cases σ.ev s0 with
      | nilsl =>
        rintro ⟨r1, r2⟩
        exact ⟨r1, fun i hi => ⟨keep _ (kp i _ fun e => by subst e; rw [hi] at hcm; cases hcm), r2 i hi⟩⟩
      | row r ver off len =>
        simp only
        split
        · rename_i sz' ver' xs old ho
          rintro ⟨r1, r2, r3, r4, r5, r6⟩
          exact ⟨r1, r2, r3, r4, r5, keep _ (kp r _ fun e => by subst e; rw [ho] at hcm; cases hcm), r6⟩
        · exact False.elim
      | _ => exact False.elim
    have h3 : opB T y (fun e h' => x.resV σ h' = some d ∧ K d e h') E σ h := by
      unfold opB at h2 ⊢
      cases hg : y.g with
      | none => rw [hg] at h2; exact hnew _ h2
      | some tw =>
        obtain ⟨t, want⟩ := tw
        rw [hg] at h2
        simp only at h2 ⊢
        split at h2
        · exact ⟨fun e => hnew _ (h2.1 e), fun e => ⟨h1, h2.2 e⟩⟩
        · exact ⟨h1, h2⟩
        · exact h2.elim
    exact opB_mono (fun e h' ⟨s, k⟩ => (resV_iff (by omega)).2 ⟨d, s, k⟩) (fun _ _ k => k) h3
  have hk11 : x.kind = 1 → y.kind ≤ 1 → opB T y (fun e h1 => opB T x (fun d h2 => K d e h2) E σ h1) E σ h := fun hx hy => by
    obtain ⟨d, h1, h2⟩ := (resV_iff (by omega)).1 hv
    obtain ⟨e, h3, h4⟩ := (resV_iff hy).1 h2
    exact (resV_iff hy).2 ⟨e, h3, (resV_iff (by omega)).2 ⟨d, h1, h4⟩⟩
  have hk23 : x.kind = 2 → y.kind = 3 → y.g.isNone = true → opB T y (fun e h1 => opB T x (fun d h2 => K d e h2) E σ h1) E σ h := fun hx hy hyg => by
    have hyp : y.p = false ∧ ∃ ds, y.i = .alloc ds := by
      unfold OpI.kind at hy
      cases hp : y.p with
      | true => rw [hp] at hy; simp at hy
      | false =>
        rw [hp] at hy
        simp only at hy
        refine ⟨rfl, ?_⟩
        split at hy <;> first | (exfalso; omega) | exact ⟨_, by assumption⟩
    have hxp : x.p = false ∧ ∃ f as, x.i = .qcall f as := by
      unfold OpI.kind at hx
      cases hp : x.p with
      | true => rw [hp] at hx; simp at hx
      | false =>
        rw [hp] at hx
        simp only at hx
        refine ⟨rfl, ?_⟩
        split at hx <;> first | (exfalso; omega) | exact ⟨_, _, by assumption⟩
    obtain ⟨yp, c, yi⟩ := hyp
    obtain ⟨xp, f, as, xi⟩ := hxp
    have new : ∀ (h : AHeap) (K E : D → AHeap → Prop), vcO T y.p (y.i.map σ.ev) h K E ↔ ∀ id, h.f id = none → K (.ptr id 1 0) (h.set id (.cells c)) := fun h K E => by
      rw [yi, yp]; rfl
    have frzc : ∀ (h : AHeap) (id : Nat) (ds : List D), h.f id = none → frzL (h.set id (.cells c)) ds = (frzL h ds).set id (.cells c) := fun h id ds hid => by
      rw [frzL_eq, frzL_eq]
      generalize ds.flatMap rowIds = rs
      induction rs generalizing h with
      | nil => rfl
      | cons r rs ih =>
        simp only [List.foldl_cons]
        have : frzId (h.set id (.cells c)) r = (frzId h r).set id (.cells c) := AHeap.ext fun q => by
          rw [frzId_f]
          simp only [AHeap.set_f]
          rw [frzId_f]
          by_cases e1 : q = r <;> by_cases e2 : q = id
          · subst e1; subst e2; simp
          · subst e1; simp [e2]
          · subst e2; simp [e1]
          · simp [e1, e2]
        rw [this]
        exact ih _ (by rw [frzId_f]; split <;> simp_all)
    have plc : ∀ (h : AHeap) (id : Nat) (d : D), h.f id = none → plainC (h.set id (.cells c)) d = plainC h d := fun h id d hid => by
      cases d with
      | row r ver off len =>
        simp only [plainC, AHeap.set_f]
        by_cases e : r = id
        · subst e; simp [hid]
        · simp [e]
      | _ => rfl
    have pl : ∀ (h : AHeap) (id : Nat) (d : D), h.f id = none → plain (h.set id (.cells c)) d = plain h d := fun h id d hid => by
      cases d with
      | agg ds => rw [plain_agg, plain_agg]; congr 1; exact List.map_congr_left fun d _ => plc h id d hid
      | _ => rw [plain_eq _ _ (by simp), plain_eq _ _ (by simp)]; exact plc h id _ hid
    have free : ∀ (h : AHeap) (id : Nat) (ds : List D), h.f id = none → (frzL h ds).f id = none := fun h id ds hid => by
      rw [frzL_eq]
      rw [(SameRows.frzs h (ds.flatMap rowIds) id).2 (by simp [hid]), hid]
    have lentS : ∀ (d : D) (h h1 : AHeap) (id : Nat), lentH d (h.set id (.cells c)) (h1.set id (.cells c)) = (lentH d h h1).set id (.cells c) := fun d h h1 id => by
      unfold lentH; cases scalar d <;> rfl
    have lentF : ∀ {h h1 : AHeap} {id : Nat} (d : D) (_ : True), h.f id = none → h1.f id = none → (lentH d h h1).f id = none := fun d _ a b => by
      unfold lentH; cases scalar d <;> assumption
    have call : ∀ (h : AHeap) (K : D → AHeap → Prop) (id : Nat), h.f id = none → vcO T x.p (x.i.map σ.ev) h (fun d h1 => ∀ id, h1.f id = none → K d (h1.set id (.cells c))) E → vcO T x.p (x.i.map σ.ev) (h.set id (.cells c)) K E := fun h K id hid hh => by
      rw [xi, xp] at hh ⊢
      simp only [Ins.map, vcO, vcI] at hh ⊢
      split at hh
      · rename_i k first cap ef
        rw [List.map_congr_left (g := plain h) fun d _ => pl h id d hid, frzc h id _ hid]
        obtain ⟨d, e, kk⟩ := hh; exact ⟨d, e, by rw [lentS]; exact kk id (lentF _ trivial hid (free h id _ hid))⟩
      · exact hh.elim
    have goal : ∀ (K : D → D → AHeap → Prop), opB T x (fun d h1 => vcO T y.p (y.i.map σ.ev) h1 (fun e h2 => K d e h2) E) E σ h → vcO T y.p (y.i.map σ.ev) h (fun e h1 => opB T x (fun d h2 => K d e h2) E σ h1) E := fun K hh => by
      rw [new]
      intro id hid
      unfold opB at hh ⊢
      have c0 : ∀ (K1 : D → AHeap → Prop), vcO T x.p (x.i.map σ.ev) h (fun d h1 => vcO T y.p (y.i.map σ.ev) h1 (fun e h2 => K d e h2) E) E → vcO T x.p (x.i.map σ.ev) (h.set id (.cells c)) (fun d h2 => K d (.ptr id 1 0) h2) E := fun K1 hh => by
        refine vcO_mono (K := fun d h2 => ∀ hh : True, K d (.ptr id 1 0) h2) (fun d h2 k => k trivial) (fun _ _ k => k) ?_
        rw [xi, xp] at hh ⊢
        simp only [Ins.map, vcO, vcI] at hh ⊢
        split at hh
        · rename_i k first cap ef
          rw [List.map_congr_left (g := plain h) fun d _ => pl h id d hid, frzc h id _ hid]
          obtain ⟨d, e, kk⟩ := hh; exact ⟨d, e, fun _ => by rw [lentS]; exact (new _ _ _).1 kk id (lentF _ trivial hid (free h id _ hid))⟩
        · exact hh.elim
      cases hg : x.g with
      | none => rw [hg] at hh; exact c0 (fun _ _ => True) hh
      | some tw =>
        obtain ⟨t, want⟩ := tw
        rw [hg] at hh
        simp only at hh ⊢
        split at hh
        · exact ⟨fun e => c0 (fun _ _ => True) (hh.1 e), fun e => (new _ _ _).1 (hh.2 e) id hid⟩
        · exact (new _ _ _).1 hh id hid
        · exact hh.elim
    unfold opB
    cases hg : y.g with
    | none =>
      refine goal K ?_
      refine opB_mono (fun d h1 k => ?_) (fun _ _ k => k) hv
      unfold opB at k
      rw [hg] at k
      exact k
    | some tw => rw [hg] at hyg; cases hyg
  split at hs
  · exact hk0 (by assumption)
  · exact hk11 (by assumption) (by omega)
  · exact hk11 (by assumption) (by omega)
  · exact hk1 (by assumption) (by omega)
  · exact hk1 (by assumption) (by omega)
  · exact hk1 (by assumption) (by omega)
  · exact hk1 (by assumption) (by omega)
  · exact hk23 (by assumption) (by assumption) hs
  · exact hk16 (by assumption) (by assumption) hs
  · exact hk18 (by assumption) (by assumption) hs
  · exact hk19 (by assumption) (by assumption) hs
  · cases hs
def Fr.low (m : Nat) (σ : Fr) : Fr := ⟨fun a => if a < m then σ.env a else .undef, σ.defs⟩
def dOk (m : Nat) (o : OpI) : Bool := match o.d with
  | some a => decide (m ≤ a)
  | none => true
theorem low_put {m : Nat} {o : OpI} (h : dOk m o = true) (σ : Fr) (v : D) : (σ.put o.d v).low m = σ.low m := by
  unfold dOk at h
  cases hd : o.d with
  | none => rfl
  | some a =>
    rw [hd] at h
    have h : m ≤ a := by simpa using h
    unfold Fr.low
    congr 1
    funext b
    by_cases c : b < m
    · have : b ≠ a := by omega
      simp [c, Fr.put, this]
    · simp [c]
def opIx (T : Tab) (oi : Nat → Option OpI) (m j : Nat) (K : Fr → AHeap → Prop) (E : Fr → D → AHeap → Prop) (σ : Fr) (h : AHeap) : Prop :=
  match oi j with
  | none => False
  | some o => opA T o K (E (σ.low m)) σ h
theorem opIx_mono {oi : Nat → Option OpI} {m j : Nat} {K K' : Fr → AHeap → Prop} {E : Fr → D → AHeap → Prop} (hk : ∀ σ h, K σ h → K' σ h) (hv : opIx T oi m j K E σ h) : opIx T oi m j K' E σ h := by
  unfold opIx at *
  split at hv
  · exact hv.elim
  · exact opA_mono hk (fun _ _ k => k) hv
def swapOk (oi : Nat → Option OpI) (m i j : Nat) : Bool :=
  match oi i, oi j with
  | some x, some y => dOk m x && dOk m y && (x.apart y && swapC x y)
  | _, _ => false
theorem opIx_swap {oi : Nat → Option OpI} {m i j : Nat} (hs : swapOk oi m i j = true) {K : Fr → AHeap → Prop} {E : Fr → D → AHeap → Prop} (hv : opIx T oi m i (opIx T oi m j K E) E σ h) : opIx T oi m j (opIx T oi m i K E) E σ h := by
  unfold swapOk at hs
  unfold opIx at *
  cases hx : oi i with
  | none => rw [hx] at hs; cases hs
  | some x =>
    cases hy : oi j with
    | none => rw [hx, hy] at hs; cases hs
    | some y =>
      rw [hx, hy] at hs
      simp only [Bool.and_eq_true] at hs
      obtain ⟨⟨hd1, hd2⟩, ha, hc⟩ := hs
      obtain ⟨l1, l2, l3⟩ := OpI.apart_spec ha
      simp only [hx, hy] at hv ⊢
      rw [opA_iff] at hv ⊢
      have h1 : opB T x (fun d h1 => opB T y (fun e h2 => K ((σ.put x.d d).put y.d e) h2) (E (σ.low m)) σ h1) (E (σ.low m)) σ h :=
        opB_mono (fun d h1 k => by rw [opA_iff, opB_put l1, low_put hd1] at k; exact k) (fun _ _ k => k) hv
      have h2 := opB_swap hc (K := fun d e h2 => K ((σ.put x.d d).put y.d e) h2) h1
      refine opB_mono (fun e h1 k => ?_) (fun _ _ k => k) h2
      rw [opA_iff, opB_put l3]
      rw [low_put hd2]
      refine opB_mono (fun d h2 k => ?_) (fun _ _ k => k) k
      rw [← put_comm l2]
      exact k
def vcAny (T : Tab) (m : Nat) (md : Region.Mode) (ops : Array Oper) (oi : Nat → Option OpI) (K : Fr → AHeap → Prop) (E : Fr → D → AHeap → Prop) : Nat → Array Bool → Fr → AHeap → Prop
  | 0, listed, σ, h => K σ h
  | fuel + 1, listed, σ, h => (Region.ready md ops listed = [] → K σ h) ∧ ∀ i ∈ Region.ready md ops listed, opIx T oi m i (vcAny T m md ops oi K E fuel (listed.setIfInBounds i true)) E σ h
theorem any_sound [Globs] {κ0 : Kap} {h0 : AHeap} {w0 : World} (hT : T.okY P κ0 w0) (hi0 : Inv κ0 h0 w0) {ro : Option Nat} {K : Ex → Fr → AHeap → Prop} {E : Fr → D → AHeap → Prop} {Ed : Fr → D → AHeap → Prop} {m : Nat} (hE : ∀ σ d h, Ed (σ.low m) d h → E σ d h) {md : Region.Mode} {ops : Array Oper} {cfg : Cfg} {dr : Bool} {r : Nat} :
    ∀ (fuel t : Nat) (listed : Array Bool) (κ : Kap) (h : AHeap) (w : World) (σ : Fr) (a : Act), Inv κ h w → Pre κ w σ n a → Ev κ0 h0 w0 κ h w →
      vcAny T m md ops (compO P n cfg dr r ops) (K .normal) Ed fuel listed σ h → wpOpsIn (FW ro) 0 P ops (QK κ0 h0 w0 n K E) (Region.linearise.go md ops fuel t listed []) a w := by
  intro fuel
  induction fuel with
  | zero => intro t listed κ h w σ a hi hp ev hv; exact ⟨κ, h, σ, hv, hi, hp, ev⟩
  | succ fuel ih =>
    intro t listed κ h w σ a hi hp ev hv
    obtain ⟨h₀, h₁⟩ := hv
    simp only [Region.linearise.go]
    change wpOpsIn (FW ro) 0 P ops (QK κ0 h0 w0 n K E) (match (Region.ready md ops listed)[t % (Region.ready md ops listed).length]? with
      | some i => Region.linearise.go md ops fuel (t / (Region.ready md ops listed).length) (listed.setIfInBounds i true) [i]
      | none => [].reverse) a w
    cases hix : (Region.ready md ops listed)[t % (Region.ready md ops listed).length]? with
    | none =>
      have hnil : Region.ready md ops listed = [] := by
        cases hr : Region.ready md ops listed with
        | nil => rfl
        | cons x xs =>
          rw [hr] at hix
          have hlt : t % (x :: xs).length < (x :: xs).length := Nat.mod_lt _ (by simp)
          simp at hix
          simp at hlt
          omega
      exact ⟨κ, h, σ, h₀ hnil, hi, hp, ev⟩
    | some i =>
      simp only []
      rw [linearise_go_acc, List.reverse_singleton, List.singleton_append, wpOpsIn_cons]
      have hv := h₁ i (List.mem_of_getElem? hix)
      unfold opIx at hv
      split at hv
      · exact hv.elim
      · rename_i o ho
        exact wpOp_of (hT.mono (ev.le hi0)) ho hi hp ev (opA_mono (fun _ _ k => k) (fun _ _ k => hE _ _ _ k) hv) fun κ' h' w' σ' a' k i' p' e' => ih _ _ κ' h' w' σ' a' i' p' e' k
inductive Reach (md : Region.Mode) (ops : Array Oper) (i : Nat) : Nat → Prop
  | one {j : Nat} {o : Oper} {e : Edge} (ho : ops[j]? = some o) (he : e ∈ o.after) (hb : Region.binds md e = true) (h : e.on = i) : Reach md ops i j
  | more {j : Nat} {o : Oper} {e : Edge} (ho : ops[j]? = some o) (he : e ∈ o.after) (hb : Region.binds md e = true) (h : Reach md ops i e.on) : Reach md ops i j
def Down (md : Region.Mode) (ops : Array Oper) (listed : Array Bool) : Prop :=
  ∀ m o, ops[m]? = some o → listed.getD m false = true → ∀ e ∈ o.after, Region.binds md e = true → listed.getD e.on false = true
theorem Down.reach {md : Region.Mode} {ops : Array Oper} {listed : Array Bool} (hd : Down md ops listed) {i j : Nat} (hr : Reach md ops i j) (hj : ∀ o, ops[j]? = some o → ∀ e ∈ o.after, Region.binds md e = true → listed.getD e.on false = true) : listed.getD i false = true := by
  induction hr with
  | one ho he hb h => rw [← h]; exact hj _ ho _ he hb
  | more ho he hb h ih => exact ih fun o' ho' => hd _ _ ho' (hj _ ho _ he hb)
theorem Down.put {md : Region.Mode} {ops : Array Oper} {listed : Array Bool} (hd : Down md ops listed) {j : Nat} (hj : j ∈ Region.ready md ops listed) : Down md ops (listed.setIfInBounds j true) := fun m o ho hm e he hb => by
  refine getD_set_true ?_
  by_cases hjm : j = m
  · subst hjm
    obtain ⟨_, o', ho', hall⟩ := mem_ready.1 hj
    rw [ho] at ho'
    cases ho'
    exact hall e he hb
  · rw [getD_set_ne false hjm] at hm
    exact hd m o ho hm e he hb
theorem not_reach {md : Region.Mode} {ops : Array Oper} {listed : Array Bool} (hd : Down md ops listed) {i j : Nat} (hr : i ∈ Region.ready md ops listed) (hj : j ∈ Region.ready md ops listed) : ¬ Reach md ops i j := fun h => by
  obtain ⟨_, oj, hoj, hall⟩ := mem_ready.1 hj
  have h1 := hd.reach h fun o ho e he hb => by
    rw [hoj] at ho
    cases ho
    exact hall e he hb
  have h0 := (mem_ready.1 hr).1
  rcases Nat.lt_or_ge i listed.size with h' | h'
  · simp [h'] at h0 h1; rw [h0] at h1; cases h1
  · simp [Array.getElem?_eq_none h'] at h1
theorem any_first {md : Region.Mode} {ops : Array Oper} {oi : Nat → Option OpI} {K : Fr → AHeap → Prop} {E : Fr → D → AHeap → Prop} {m i : Nat} :
    ∀ (fuel : Nat) (listed : Array Bool) (L : List Nat) (σ : Fr) (h : AHeap), L.length ≤ fuel + 1 → (∀ j, j < ops.size → listed.getD j true = false → j ∈ L) → Down md ops listed →
      (∀ j oj, ops[j]? = some oj → j ≠ i → listed.getD j true = false → ¬ Reach md ops i j → swapOk oi m i j = true) →
      i ∈ Region.ready md ops listed → opIx T oi m i (vcAny T m md ops oi K E fuel (listed.setIfInBounds i true)) E σ h → vcAny T m md ops oi K E (fuel + 1) listed σ h := by
  intro fuel
  induction fuel with
  | zero =>
    intro listed L σ h hl hL hdn hfree hr H
    refine ⟨fun h => (by rw [h] at hr; cases hr), fun j hj => ?_⟩
    by_cases hji : j = i
    · subst hji; exact H
    · obtain ⟨hju, oj, hoj, _⟩ := mem_ready.1 hj
      obtain ⟨hiu, oi', hoi, _⟩ := mem_ready.1 hr
      have m1 := hL j (Array.getElem?_eq_some_iff.1 hoj).1 hju
      have m2 := hL i (Array.getElem?_eq_some_iff.1 hoi).1 hiu
      match L, hl, m1, m2 with
      | [x], _, m1, m2 =>
        simp at m1 m2
        exact absurd (m1.trans m2.symm) hji
      | [], _, m1, _ => cases m1
      | _ :: _ :: _, hl, _, _ => simp at hl
  | succ fuel ih =>
    intro listed L σ h hl hL hdn hfree hr H
    refine ⟨fun h => (by rw [h] at hr; cases hr), fun j hj => ?_⟩
    by_cases hji : j = i
    · subst hji; exact H
    · obtain ⟨hjun, oj, hoj, hall⟩ := mem_ready.1 hj
      have h1 := opIx_mono (fun σ' h' k => k.2 j (ready_mono hj hji)) H
      have h2 := opIx_swap (hfree j oj hoj hji hjun (not_reach hdn hr hj)) h1
      refine opIx_mono (fun σ' h' k => ?_) h2
      refine ih (listed.setIfInBounds j true) (L.erase j) σ' h' ?_ (fun q hq hu => ?_) (hdn.put hj) (fun q oq hq hqi hun hno => ?_) (ready_mono hr (Ne.symm hji)) (by rw [Array.setIfInBounds_comm _ _ hji]; exact k)
      · have m1 := hL j (Array.getElem?_eq_some_iff.1 hoj).1 hjun
        rw [List.length_erase_of_mem m1]
        omega
      · by_cases hjq : j = q
        · subst hjq
          exfalso
          rcases Nat.lt_or_ge j listed.size with h' | h'
          · simp [h'] at hu
          · simp [Array.getElem?_eq_none h'] at hjun
        · rw [getD_set_ne true hjq] at hu
          exact (List.mem_erase_of_ne (Ne.symm hjq)).2 (hL q hq hu)
      · refine hfree q oq hq hqi ?_ hno
        by_cases hjq : j = q
        · subst hjq; exact hjun
        · rw [getD_set_ne true hjq] at hun; exact hun
def hangs (md : Region.Mode) (ops : Array Oper) (i m j : Nat) : Bool :=
  match ops[j]? with
  | some o => o.after.any fun e => Region.binds md e && (e.on == i || m.testBit e.on)
  | none => false
def descM (md : Region.Mode) (ops : Array Oper) (i : Nat) : Nat :=
  (List.range ops.size).foldl (fun m j => if hangs md ops i m j = true then m ||| 2 ^ j else m) 0
theorem descM_sound {md : Region.Mode} {ops : Array Oper} {i : Nat} : ∀ j, (descM md ops i).testBit j = true → Reach md ops i j := by
  unfold descM
  generalize List.range ops.size = l
  have key : ∀ (l : List Nat) (m : Nat), (∀ j, m.testBit j = true → Reach md ops i j) → ∀ j, (l.foldl (fun m j => if hangs md ops i m j = true then m ||| 2 ^ j else m) m).testBit j = true → Reach md ops i j := by
    intro l
    induction l with
    | nil => exact fun m hm j hj => hm j hj
    | cons q l ih =>
      intro m hm j hj
      simp only [List.foldl_cons] at hj
      refine ih _ ?_ j hj
      clear hj j
      intro j hj
      by_cases hq : hangs md ops i m q = true
      · rw [if_pos hq] at hj
        simp only [Nat.testBit_or, Nat.testBit_two_pow, Bool.or_eq_true, decide_eq_true_eq] at hj
        rcases hj with hj | hj
        · exact hm j hj
        · subst hj
          unfold hangs at hq
          split at hq
          · rename_i o ho
            obtain ⟨e, he, hb⟩ := Array.any_eq_true'.1 hq
            simp only [Bool.and_eq_true, Bool.or_eq_true, beq_iff_eq] at hb
            obtain ⟨hb1, hb2 | hb2⟩ := hb
            · exact .one ho he hb1 hb2
            · exact .more ho he hb1 (hm _ hb2)
          · cases hq
      · rw [if_neg hq] at hj; exact hm j hj
  exact key l 0 (fun j hj => by simp at hj)
def chkOrd (md : Region.Mode) (ops : Array Oper) (oi : Nat → Option OpI) (m : Nat) : List Nat → Array Bool → Bool
  | [], listed => (Region.ready md ops listed).isEmpty
  | i :: l, listed => (Region.ready md ops listed).contains i &&
      (List.range ops.size).all (fun j => j == i || listed.getD j true || (descM md ops i).testBit j || swapOk oi m i j) &&
      chkOrd md ops oi m l (listed.setIfInBounds i true)
theorem chkOrd_sound {md : Region.Mode} {ops : Array Oper} {oi : Nat → Option OpI} {m : Nat} {K : Fr → AHeap → Prop} {E : Fr → D → AHeap → Prop} : ∀ (l : List Nat) (fuel : Nat) (os : List OpI) (listed : Array Bool) (L : List Nat) (σ : Fr) (h : AHeap),
    chkOrd md ops oi m l listed = true → l.mapM oi = some os → L.length ≤ fuel → (∀ j, j < ops.size → listed.getD j true = false → j ∈ L) → Down md ops listed → l.length ≤ fuel → vcOps T os K (fun σ => E (σ.low m)) σ h → vcAny T m md ops oi K E fuel listed σ h
  | [], fuel, os, listed, L, σ, h, hc, hm, hl, hL, hdn, hf, hv => by
    simp at hm
    subst hm
    simp only [chkOrd, List.isEmpty_iff] at hc
    cases fuel with
    | zero => exact hv
    | succ fuel => exact ⟨fun _ => hv, by rw [hc]; simp⟩
  | i :: l, 0, os, listed, L, σ, h, hc, hm, hl, hL, hdn, hf, hv => by simp at hf
  | i :: l, fuel + 1, os, listed, L, σ, h, hc, hm, hl, hL, hdn, hf, hv => by
    simp only [chkOrd, Bool.and_eq_true, List.all_eq_true, List.mem_range, Bool.or_eq_true, beq_iff_eq] at hc
    obtain ⟨⟨c1, c2⟩, c3⟩ := hc
    simp only [List.mapM_cons, Option.bind_eq_bind, Option.bind_eq_some_iff] at hm
    obtain ⟨o, e1, os', e2, e3⟩ := hm
    cases e3
    have hr : i ∈ Region.ready md ops listed := by simpa using c1
    obtain ⟨hiu, oo, hoo, _⟩ := mem_ready.1 hr
    refine any_first fuel listed L σ h (by omega) hL hdn (fun j oj hj hji hun hno => ?_) hr ?_
    · have hlt := (Array.getElem?_eq_some_iff.1 hj).1
      rcases c2 j hlt with ((h1 | h1) | h1) | h1
      · exact absurd h1 hji
      · rw [hun] at h1; cases h1
      · exact absurd (descM_sound j h1) hno
      · exact h1
    · unfold opIx
      simp only [e1]
      refine opA_mono (fun σ' h' k => ?_) (fun _ _ k => k) hv
      refine chkOrd_sound l fuel os' (listed.setIfInBounds i true) (L.erase i) σ' h' c3 e2 ?_ (fun q hq hu => ?_) (hdn.put hr) (by simpa using hf) k
      · have m1 := hL i (Array.getElem?_eq_some_iff.1 hoo).1 hiu
        rw [List.length_erase_of_mem m1]
        omega
      · by_cases hjq : i = q
        · subst hjq
          exfalso
          rcases Nat.lt_or_ge i listed.size with h' | h'
          · simp [h'] at hu
          · simp [Array.getElem?_eq_none h'] at hiu
        · rw [getD_set_ne true hjq] at hu
          exact (List.mem_erase_of_ne (Ne.symm hjq)).2 (hL q hq hu)
theorem Down.none {md : Region.Mode} {ops : Array Oper} {n : Nat} : Down md ops (Array.replicate n false) := fun m o _ hm => by
  exfalso
  rw [Array.getD_eq_getD_getElem?, Array.getElem?_replicate] at hm
  split at hm <;> simp at hm
end Go.Proofs.YtpagdhbmbnoddaaGreatDoor.Zz
