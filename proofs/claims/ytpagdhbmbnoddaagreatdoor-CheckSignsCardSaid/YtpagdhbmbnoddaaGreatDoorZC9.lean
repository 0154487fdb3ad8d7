/- Contracts: an expression of a type; a name becomes known. -/
import Derived.Test.YtpagdhbmbnoddaaGreatDoorZC5
set_option linter.unnecessarySimpa false
set_option linter.unusedVariables false
set_option linter.unusedSimpArgs false
set_option maxRecDepth 20000
namespace Go.Proofs.YtpagdhbmbnoddaaGreatDoor.Zz
noncomputable section
def p74c : Plan := ⟨⟨[], [(1, 8), (2, 2), (3, 4)], [], [], [], []⟩, [], [], false⟩
def s74c : Stm :=
 .seq (.ops [⟨.box (.t 1), some 4, none, false⟩,
 ⟨.alloc [(.int .i64 0), (.int .i64 0), (.str []), (.int .i64 0), .nilsl], some 6, none, false⟩])
 (.seq (.ops [⟨.fieldAddr 0 (.t 4), some 8, none, true⟩,
 ⟨.load none (.t 8), some 9, none, false⟩,
 ⟨.bin .geq (.t 9) (.c (.int .i64 20)), some 10, none, true⟩,
 ⟨.mov (.t 10), some 11, none, true⟩,
 ⟨.fieldAddr 0 (.t 4), some 12, (some (11, true)), true⟩,
 ⟨.load none (.t 12), some 13, (some (11, true)), false⟩,
 ⟨.bin .leq (.t 13) (.c (.int .i64 27)), some 14, (some (11, true)), true⟩,
 ⟨.pick (.t 11) (.t 14) (.c (.bool false)), some 15, none, true⟩,
 ⟨.call (.f 49) [(.t 15), (.c (.int .i64 125))], some 16, none, false⟩])
 (.seq (.ops [⟨.mov (.t 0), some 17, none, true⟩,
 ⟨.load (some 5) (.t 4), some 18, none, false⟩,
 ⟨.call (.f 97) [(.t 17), (.t 18)], some 19, none, false⟩,
 ⟨.alloc [(.int .i64 0), (.int .i64 0), (.str []), (.int .i64 0), .nilsl], some 7, none, false⟩,
 ⟨.store 5 (.t 7) (.t 19), none, none, false⟩])
 (.seq (.ops [⟨.fieldAddr 1 (.t 7), some 20, none, true⟩,
 ⟨.load none (.t 20), some 21, none, false⟩,
 ⟨.mov (.t 2), some 22, none, true⟩,
 ⟨.bin .eql (.t 21) (.t 22), some 23, none, true⟩,
 ⟨.call (.f 49) [(.t 23), (.c (.int .i64 122))], some 24, none, false⟩])
 (.seq (.ops [⟨.load (some 5) (.t 7), some 25, none, false⟩,
 ⟨.store 5 (.t 6) (.t 25), none, none, false⟩])
 (.ret)))))
theorem st74c : stmOf Tryz.prog 74 p74c = some (s74c, [.cell 6 (some 5)], 26) := by kernel_rfl
theorem fin_plain {K E : D → AHeap → Prop} {σ : Fr} {A h : AHeap} {a i2 : Nat} {x : Nd} (hσ : σ.env a = .ptr i2 1 0) (hA : A.f i2 = some (.cells x.enc)) (ext : Ext h A) (hk : K (.agg x.enc) h) : finD [.cell a (some 5)] (AOut.to K E) σ none A := by
  refine ⟨[.agg x.enc], ?_, .inl ⟨h, ext.sub, hk⟩⟩
  simp [evRes, hσ, loadD, hA, part_enc]
def cTy (args : List D) (h : AHeap) (K E : D → AHeap → Prop) : Prop := ∃ (c : Nat) (p : Nd) (sc : Scp) (dn dt : D) (ans : Int) (x : Nd) (T : Int), args = [.ptr c 1 0, .agg x.enc, .int .i64 T] ∧ ScAt h c p sc dn dt ans ∧ x.cnt ≤ 1000000 ∧ crP K E h (some (crN (typedF p.lD sc x T)))
theorem cTy_mono (args : List D) (h : AHeap) (K E K' E' : D → AHeap → Prop) (hk : ∀ d h, K d h → K' d h) (he : ∀ d h, E d h → E' d h) (c : cTy args h K E) : cTy args h K' E' := by
  obtain ⟨c, p, sc, dn, dt, ans, x, T, a, b, e, k⟩ := c
  exact ⟨c, p, sc, dn, dt, ans, x, T, a, b, e, crP_mono hk he k⟩
theorem cTy_ok (args : List D) (h : AHeap) (K E : D → AHeap → Prop) (c : cTy args h K E) : ACalls Tryz.prog 74 args h (AOut.to K E) := by
  obtain ⟨c, p, sc, dn, dt, ans, x, T, rfl, hs, hb, hk⟩ := c
  refine ACalls.of_stmD tb97c_ok (dc := DTab.none) (fun _ _ => DTab.none_ok) (by kernel_rfl) st74c (by simp) ?_
  rw [vc_todo]
  obtain ⟨k, t, s, n, l⟩ := x
  unfold typedF at hk
  rw [enc_mk]
  simp (maxSteps := 1000000) only [s74c, tb97c_e, zzK, seval]
  intro i1 k1 i2 n1 n2 k2
  have ext2 : ∀ o o', Ext h ((h.set i1 o).set i2 o') := fun o o' => ((Ext.refl h).set k1).set k2
  simp (maxSteps := 1000000) only [n1, n2, tb97c_e, zzK, seval]
  by_cases q1c : 20 ≤ k
  · have g1 : (k ≥ 20) = True := eq_true q1c
    by_cases q2c : k ≤ 27
    · have hE : isEx (Nd.mk k t s n l).kD = true := by simp [Nd.kD, isEx, q1c, q2c]
      have g2 : decide (k ≤ 27) = true := by simp [q2c]
      rw [if_pos hE] at hk
      simp (maxSteps := 1000000) only [g1, g2, n1, n2, cNeed, q49c, crP_ok, cond_true, tb97c_e, zzK, seval]
      refine ⟨c, p, sc, dn, dt, ans, .mk k t s n l, by rw [enc_mk], hs.ext (ext2 _ _), hb, ?_⟩
      cases he : exprF p.lD sc (.mk k t s n l) with
      | error e =>
        rw [he] at hk
        simp only [crN_err, crP_err] at hk ⊢
        simp only [panD, leav_nil, finD]
        exact ⟨h, (ext2 _ _).sub, hk⟩
      | ok y =>
        rw [he] at hk
        obtain ⟨yk, yt, ys, yn, yl⟩ := y
        simp (maxSteps := 1000000) only [crN_ok, crP_ok, enc_mk, n1, n2, tb97c_e, zzK, seval]
        intro i3 m1 m2 m3 m4 k3
        cases d : (yt == T) with
        | false =>
          have hd : ((Nd.mk yk yt ys yn yl).tD == T) = false := d
          simp only at hk
          rw [if_neg (by rw [hd]; simp)] at hk
          simp only [crN_err, crP_err] at hk
          simp (maxSteps := 1000000) only [cNeed, q49c, crP_err, cond_false, panD, leav_nil, finD, zzK, seval]
          exact ⟨h, ((ext2 _ _).set k3).sub, hk⟩
        | true =>
          have hd : ((Nd.mk yk yt ys yn yl).tD == T) = true := d
          simp only at hk
          rw [if_pos hd] at hk
          simp only [crN_ok, crP_ok] at hk
          simp (maxSteps := 1000000) only [cNeed, q49c, crP_ok, cond_true, n1, n2, m1, m2, m3, m4, retD_ret, leav_nil, tb97c_e, zzK, seval]
          exact fin_plain (x := .mk yk yt ys yn yl) (i2 := i2) (by simp only [zzK, seval]) (by simp [enc_mk, n1, n2, m1, m2, m3, m4]) (((ext2 _ _).set k3).set k2) hk
    · have hE : isEx (Nd.mk k t s n l).kD = false := by simp [Nd.kD, isEx, q2c]
      have g2 : decide (k ≤ 27) = false := by simp [q2c]
      rw [if_neg (by rw [hE]; simp)] at hk
      simp only [crN_err, crP_err] at hk
      simp (maxSteps := 1000000) only [g1, g2, n1, n2, cNeed, q49c, crP_err, cond_false, panD, leav_nil, finD, tb97c_e, zzK, seval]
      exact ⟨h, (ext2 _ _).sub, hk⟩
  · have g1 : (k ≥ 20) = False := eq_false q1c
    have hE : isEx (Nd.mk k t s n l).kD = false := by simp [Nd.kD, isEx, q1c]
    rw [if_neg (by rw [hE]; simp)] at hk
    simp only [crN_err, crP_err] at hk
    simp (maxSteps := 1000000) only [g1, n1, n2, cNeed, q49c, crP_err, cond_false, panD, leav_nil, finD, tb97c_e, zzK, seval]
    exact ⟨h, (ext2 _ _).sub, hk⟩
def tb74c : Tab := tb97c.addE 74 cTy cTy_mono
theorem tb74c_q : tb74c.q = tb97c.q := rfl
theorem tb74c_a : tb74c.a = tb97c.a := rfl
theorem tb74c_c (g : FuncId) (args : List D) (h : AHeap) (K E : D → AHeap → Prop) : tb74c.c g args h K E = if g = 74 then cTy args h K E else tb97c.c g args h K E := rfl
theorem tb74c_ok : tb74c.ok Tryz.prog := Tab.addE_ok tb97c_ok cTy_ok
theorem tb74c_e : type_of% (And.intro (And.intro @tb74c_q (And.intro @tb74c_a @tb74c_c)) @tb97c_e) := (And.intro (And.intro @tb74c_q (And.intro @tb74c_a @tb74c_c)) @tb97c_e)
end
end Go.Proofs.YtpagdhbmbnoddaaGreatDoor.Zz
namespace Go.Proofs.YtpagdhbmbnoddaaGreatDoor.Zz
noncomputable section
def p76c : Plan := ⟨⟨[], [(0, 4), (2, 11)], [], [((3, 9), [(.t 0)]), ((3, 17), [(.t 0)])], [((3, 6), (.t 0)), ((3, 14), (.t 0))], []⟩, [(3, [0, 1, 2, 3, 4, 5, 6, 7, 8, 10, 11, 12, 13, 14, 15, 16, 9, 17, 18, 19, 20, 21, 22, 23, 24, 25])], [], false⟩
def s76c : Stm :=
 .seq (.ops [⟨.mov (.t 0), some 11, none, true⟩,
 ⟨.nilCheck (.t 11), some 12, none, true⟩,
 ⟨.fieldAddr 5 (.t 12), some 13, none, true⟩,
 ⟨.mov (.t 1), some 14, none, true⟩,
 ⟨.call (.f 99) [(.t 13), (.t 14)], some 15, none, false⟩,
 ⟨.mov (.t 15), some 10, none, true⟩,
 ⟨.extract (.t 10) 0, some 16, none, true⟩,
 ⟨.extract (.t 10) 1, some 17, none, true⟩,
 ⟨.mov (.t 16), some 6, none, true⟩,
 ⟨.mov (.t 17), some 7, none, true⟩])
 (.seq (.ops [⟨.mov (.t 0), some 19, none, true⟩,
 ⟨.nilCheck (.t 19), some 20, none, true⟩,
 ⟨.fieldAddr 0 (.t 20), some 21, none, true⟩,
 ⟨.load (some 5) (.t 21), some 22, none, false⟩,
 ⟨.mov (.t 1), some 23, none, true⟩,
 ⟨.qcall (.f 100) [(.t 22), (.t 23)], some 24, none, false⟩,
 ⟨.mov (.t 24), some 18, none, true⟩,
 ⟨.extract (.t 18) 0, some 25, none, true⟩,
 ⟨.extract (.t 18) 1, some 26, none, true⟩,
 ⟨.alloc [(.int .i64 0), (.int .i64 0), (.str []), (.int .i64 0), .nilsl], some 8, none, false⟩,
 ⟨.store 5 (.t 8) (.t 25), none, none, false⟩,
 ⟨.mov (.t 26), some 9, none, true⟩])
 (.seq (.ops [⟨.mov (.t 7), some 27, none, true⟩,
 ⟨.un .not (.t 27), some 28, none, true⟩,
 ⟨.mov (.t 28), some 29, none, true⟩,
 ⟨.mov (.t 9), some 30, (some (29, true)), true⟩,
 ⟨.un .not (.t 30), some 31, (some (29, true)), true⟩,
 ⟨.mov (.t 31), some 32, (some (29, true)), true⟩,
 ⟨.fieldAddr 0 (.t 8), some 33, (some (32, false)), true⟩,
 ⟨.load none (.t 33), some 34, (some (32, false)), false⟩,
 ⟨.bin .neq (.t 34) (.c (.int .i64 2)), some 35, (some (32, false)), true⟩,
 ⟨.pick (.t 32) (.c (.bool true)) (.t 35), some 36, (some (29, true)), true⟩,
 ⟨.pick (.t 29) (.t 36) (.c (.bool false)), some 37, none, true⟩,
 ⟨.call (.f 49) [(.t 37), (.c (.int .i64 120))], some 38, none, false⟩])
 (.opsD 39 [⟨.mov (.t 0), some 39, none, true⟩,
 ⟨.mov (.t 0), some 40, none, true⟩,
 ⟨.mov (.t 0), some 41, none, true⟩,
 ⟨.nilCheck (.t 41), some 42, none, true⟩,
 ⟨.fieldAddr 5 (.t 42), some 43, none, true⟩,
 ⟨.fieldAddr 0 (.t 43), some 44, none, true⟩,
 ⟨.loadOf none (.t 44) (.t 0), some 45, none, false⟩,
 ⟨.mov (.t 1), some 46, none, true⟩,
 ⟨.buildSlice 1 [(.str [])] 1 [(0, (.t 46))] false, some 47, none, true⟩,
 ⟨.mov (.t 0), some 49, none, true⟩,
 ⟨.nilCheck (.t 49), some 50, none, true⟩,
 ⟨.fieldAddr 5 (.t 50), some 51, none, true⟩,
 ⟨.fieldAddr 1 (.t 51), some 52, none, true⟩,
 ⟨.loadOf none (.t 52) (.t 0), some 53, none, false⟩,
 ⟨.mov (.t 2), some 54, none, true⟩,
 ⟨.buildSlice 1 [(.int .i64 0)] 1 [(0, (.t 54))] false, some 55, none, true⟩,
 ⟨.appendA 1 16 false (.t 45) (.t 47) [(.t 0)], some 48, none, false⟩,
 ⟨.appendA 1 8 false (.t 53) (.t 55) [(.t 0)], some 56, none, false⟩,
 ⟨.nilCheck (.t 39), some 57, none, true⟩,
 ⟨.fieldAddr 5 (.t 57), some 58, none, true⟩,
 ⟨.fieldAddr 0 (.t 58), some 59, none, true⟩,
 ⟨.store 1 (.t 59) (.t 48), none, none, false⟩,
 ⟨.nilCheck (.t 40), some 60, none, true⟩,
 ⟨.fieldAddr 5 (.t 60), some 61, none, true⟩,
 ⟨.fieldAddr 1 (.t 61), some 62, none, true⟩,
 ⟨.store 1 (.t 62) (.t 56), none, none, false⟩])))
theorem st76c : stmOf Tryz.prog 76 p76c = some (s76c, [], 63) := by kernel_rfl
def ViewAt (h : AHeap) (d : D) (xs : List (List D)) : Prop := (d = .nilsl ∧ xs = []) ∨ ∃ r v cur ys old, d = .row r v 0 xs.length ∧ h.f r = some (.arow 1 cur ys old) ∧ xs = ys.take xs.length ∧ xs.length ≤ ys.length ∧ Knows v xs.length cur ys.length old ∧ ∀ e ∈ old, e.1 < cur
theorem RowAt.view {h : AHeap} {d : D} {xs : List (List D)} (r : RowAt h d xs) : ViewAt h d xs := by
  rcases r with r | ⟨r, v, old, h1, h2, h3⟩
  · exact .inl r
  · exact .inr ⟨r, v, v, xs, old, h1, h2, by simp, Nat.le_refl _, .inl ⟨rfl, rfl⟩, h3⟩
structure Grow (h h' : AHeap) (c : Nat) : Prop where
  keep : ∀ i o, h.f i = some o → i ≠ c → (∀ sz ver xs old, o ≠ .arow sz ver xs old) → h'.f i = some o
  view : ∀ d xs, ViewAt h d xs → ViewAt h' d xs
  dom : ∀ i, h.f i ≠ none → h'.f i ≠ none
theorem dom_set {h : AHeap} {i j : Nat} {o : AObj} (e : h.f j ≠ none) : (h.set i o).f j ≠ none := by
  simp only [AHeap.set_f]; split
  · simp
  · exact e
theorem Grow.refl (h : AHeap) (c : Nat) : Grow h h c := ⟨fun _ _ e _ _ => e, fun _ _ e => e, fun _ e => e⟩
theorem Grow.trans {h h1 h2 : AHeap} {c : Nat} (a : Grow h h1 c) (b : Grow h1 h2 c) : Grow h h2 c := ⟨fun i o e n k => b.keep i o (a.keep i o e n k) n k, fun d xs v => b.view d xs (a.view d xs v), fun i e => b.dom i (a.dom i e)⟩
theorem Grow.set {h : AHeap} {c i : Nat} {o : AObj} (hi : i = c ∨ h.f i = none) (ho : ∀ sz ver xs old, h.f i ≠ some (.arow sz ver xs old)) : Grow h (h.set i o) c where
  dom := fun j e => dom_set e
  keep := fun j q e n k => by
    have : j ≠ i := fun x => by
      rcases hi with hi | hi
      · exact n (x.trans hi)
      · rw [x, hi] at e; cases e
    simp [this, e]
  view := fun d xs v => by
    rcases v with v | ⟨r, v, cur, ys, old, h1, h2, h3⟩
    · exact .inl v
    · have : r ≠ i := fun x => by rw [x] at h2; exact ho _ _ _ _ h2
      exact .inr ⟨r, v, cur, ys, old, h1, by simp [this, h2], h3⟩
theorem Grow.push {h : AHeap} {c r ver : Nat} {xs : List (List D)} {old : List (Nat × Nat)} {y : List D} (hr : h.f r = some (.arow 1 ver xs old)) (hold : ∀ e ∈ old, e.1 < ver) : Grow h (h.set r (.arow 1 (ver + 1) (xs ++ [y]) ((ver, xs.length) :: old))) c where
  dom := fun j e => dom_set e
  keep := fun j q e n k => by
    have : j ≠ r := fun x => by rw [x, hr] at e; cases e; exact k _ _ _ _ rfl
    simp [this, e]
  view := fun d zs v => by
    rcases v with v | ⟨r', v, cur, ys, old', h1, h2, h3, h4, h5, h6⟩
    · exact .inl v
    · by_cases e : r' = r
      · subst e
        rw [hr] at h2
        cases h2
        refine .inr ⟨r', v, ver + 1, xs ++ [y], (ver, xs.length) :: old, h1, by simp, ?_, by simp; omega, ?_, fun e he => ?_⟩
        · rw [List.take_append_of_le_length h4]; exact h3
        · rcases h5 with ⟨a, b⟩ | h5
          · exact .inr (by rw [a, b]; simp)
          · exact .inr (List.mem_cons_of_mem _ h5)
        · rcases List.mem_cons.1 he with rfl | he
          · exact Nat.lt_succ_self _
          · exact Nat.lt_succ_of_lt (hold e he)
      · exact .inr ⟨r', v, cur, ys, old', h1, by simp [e, h2], h3, h4, h5, h6⟩
def rowOf : D → Option Nat
  | .row r _ _ _ => some r
  | _ => none
theorem RowAt.arow {h : AHeap} {d : D} {xs : List (List D)} (r : RowAt h d xs) {i : Nat} (e : rowOf d = some i) : ∃ sz ver ys old, h.f i = some (.arow sz ver ys old) := by
  rcases r with ⟨rfl, _⟩ | ⟨r, v, old, rfl, h2, _⟩
  · cases e
  · cases e; exact ⟨_, _, _, _, h2⟩
theorem RowAt.frame {h h' : AHeap} {d : D} {xs : List (List D)} (r : RowAt h d xs) (f : ∀ i, rowOf d = some i → h'.f i = h.f i) : RowAt h' d xs := by
  rcases r with r | ⟨r, v, old, rfl, h2, h3⟩
  · exact .inl r
  · exact .inr ⟨r, v, old, rfl, by rw [f r rfl]; exact h2, h3⟩
theorem appA_at {h : AHeap} {c b : Nat} {d : D} {xs : List (List D)} {y : List D} {K : D → AHeap → Prop} (hr : RowAt h d xs) (hy : y.length = 1 ∧ y.all cellOk = true) (hb : 0 < b) (hlen : (xs.length + 1) * b ≤ 140737488355328)
    (hk : ∀ d' h', RowAt h' d' (xs ++ [y]) → Grow h h' c → (∀ i o, h.f i = some o → rowOf d ≠ some i → h'.f i = some o) → (∀ i, rowOf d' = some i → rowOf d = some i ∨ h.f i = none) → cellOk d' = true ∧ cellsD d' = [d'] → K d' h') : appAK 1 b d h K (some [y]) := by
  rcases hr with ⟨rfl, rfl⟩ | ⟨r, v, old, rfl, h2, h3⟩
  · rw [appA_nil]
    refine ⟨fun z hz => by rw [List.mem_singleton.1 hz]; exact hy, hb, by simp, by simpa using hlen, fun id hid => ?_⟩
    refine hk _ _ (.inr ⟨id, 2, [], rfl, by simp, by simp⟩) (Grow.set (.inr hid) (by simp [hid])) (fun i o e _ => ?_) (fun i e => ?_) ⟨rfl, rfl⟩
    · have : i ≠ id := fun x => by rw [x, hid] at e; cases e
      simp [this, e]
    · cases e; exact .inr hid
  · rw [appA_row, h2, appAR_row]
    refine ⟨fun z hz => by rw [List.mem_singleton.1 hz]; exact hy, hb, by simp, rfl, rfl, rfl, rfl, by simpa using hlen, ?_⟩
    refine hk _ _ (.inr ⟨r, v + 1, (v, xs.length) :: old, by simp, by simp, fun e he => ?_⟩) (Grow.push h2 h3) (fun i o e hn => ?_) (fun i e => .inl e) ⟨rfl, rfl⟩
    · rcases List.mem_cons.1 he with rfl | he
      · exact Nat.lt_succ_self _
      · exact Nat.lt_succ_of_lt (h3 e he)
    · have : i ≠ r := fun x => hn (by rw [x]; rfl)
      simp [this, e]
theorem nmD_snoc (sc : Scp) (s : List UInt8) (T : Int) : nmD sc ++ [[.str s]] = nmD (sc ++ [(s, T)]) := by simp [nmD]
theorem tyD_snoc (sc : Scp) (s : List UInt8) (T : Int) : tyD sc ++ [[.int .i64 T]] = tyD (sc ++ [(s, T)]) := by simp [tyD]
def cDef (args : List D) (h : AHeap) (K E : D → AHeap → Prop) : Prop := ∃ (c : Nat) (p : Nd) (sc : Scp) (dn dt : D) (ans : Int) (s : List UInt8) (T : Int), args = [.ptr c 1 0, .str s, .int .i64 T] ∧ ScAt h c p sc dn dt ans ∧ sc.length ≤ 1000000 ∧
  (match defF p.lD sc s T with
  | .ok sc' => ∀ h' dn' dt', ScAt h' c p sc' dn' dt' ans → Grow h h' c → K (.tuple []) h'
  | .error e => E (faultD e) h)
theorem cDef_mono (args : List D) (h : AHeap) (K E K' E' : D → AHeap → Prop) (hk : ∀ d h, K d h → K' d h) (he : ∀ d h, E d h → E' d h) (c : cDef args h K E) : cDef args h K' E' := by
  obtain ⟨c, p, sc, dn, dt, ans, s, T, a, b, e, k⟩ := c
  refine ⟨c, p, sc, dn, dt, ans, s, T, a, b, e, ?_⟩
  split at k
  · exact fun h' dn' dt' x y => hk _ _ (k h' dn' dt' x y)
  · exact he _ _ k
theorem cDef_ok (args : List D) (h : AHeap) (K E : D → AHeap → Prop) (c : cDef args h K E) : ACalls Tryz.prog 76 args h (AOut.to K E) := by
  obtain ⟨c, p, sc, dn, dt, ans, s, T, rfl, hs, hb, hk⟩ := c
  refine ACalls.of_stmD tb74c_ok (dc := DTab.none) (fun _ _ => DTab.none_ok) (by kernel_rfl) st76c (by simp) ?_
  rw [vc_todo]
  obtain ⟨kk, t, ss, n, l⟩ := p
  have ho := hs.obj
  rw [cObj_mk] at ho
  simp only [Nd.lD] at hk
  unfold defF at hk
  simp (maxSteps := 1000000) only [s76c, ho, tb74c_e, zzK, seval]
  refine ⟨c, .mk kk t ss n l, sc, dn, dt, ans, s, rfl, hs, ?_⟩
  cases hf : findS sc s with
  | some t' =>
    simp only [hf, Option.isNone_some, Bool.false_and, Bool.false_eq_true, if_false] at hk
    cases hq : findK l s with
    | none =>
      simp (maxSteps := 1000000) only [Option.getD_some, Option.isSome_some, ho, q100c_mk, findD, hq, zNd, tb74c_e, zzK, seval]
      intro i1 n1
      simp (maxSteps := 1000000) only [n1, cNeed, q49c, crP_err, cond_false, panD, leav_nil, finD, zzK, seval]
      exact ⟨h, sub_fr n1, hk⟩
    | some o =>
      obtain ⟨ok, ot, os, on, ol⟩ := o
      simp (maxSteps := 1000000) only [Option.getD_some, Option.isSome_some, ho, q100c_mk, findD, hq, enc_mk, tb74c_e, zzK, seval]
      intro i1 n1
      simp (maxSteps := 1000000) only [n1, cNeed, q49c, crP_err, cond_false, panD, leav_nil, finD, zzK, seval]
      exact ⟨h, sub_fr n1, hk⟩
  | none =>
    cases hq : findK l s with
    | none =>
      simp only [hf, hq, Option.isNone_none, Bool.true_and, if_true] at hk
      simp (maxSteps := 1000000) only [Option.getD_none, Option.isSome_none, ho, q100c_mk, findD, hq, zNd, tb74c_e, zzK, seval]
      intro i1 n1
      have c1c : ¬ c = i1 := fun e => by subst e; rw [n1] at ho; cases ho
      have c1c' : ¬ i1 = c := fun e => c1c e.symm
      simp (maxSteps := 1000000) only [n1, c1c, c1c', ho, cNeed, q49c, crP_ok, cond_true, tb74c_e, zzK, seval]
      have hs1 := hs.ext (h' := h.set i1 (.cells [.int .i64 0, .int .i64 0, .str [], .int .i64 0, .nilsl])) ((Ext.refl h).set n1)
      have hg0 : Grow h (h.set i1 (.cells [.int .i64 0, .int .i64 0, .str [], .int .i64 0, .nilsl])) c := Grow.set (.inr n1) (by simp [n1])
      generalize hH : h.set i1 (.cells [.int .i64 0, .int .i64 0, .str [], .int .i64 0, .nilsl]) = H at hs1 hg0 ⊢
      have ho1 := hs1.obj
      rw [cObj_mk] at ho1
      have nr : ∀ d xs, RowAt H d xs → rowOf d ≠ some c := fun d xs hr e => by
        obtain ⟨_, _, _, _, e2⟩ := hr.arow e
        rw [e2] at ho1; cases ho1
      have nrt := nr _ _ hs1.ty
      have nrn := nr _ _ hs1.nm
      have hne : ∀ i, rowOf dt = some i → rowOf dn ≠ some i := fun i e1 e2 => by
        cases dt <;> cases dn <;> simp only [rowOf, reduceCtorEq, Option.some.injEq] at e1 e2
        exact hs.ne _ _ _ _ _ _ _ _ rfl rfl (e2.trans e1.symm)
      refine appA_at (c := c) hs1.nm ⟨rfl, rfl⟩ (by omega) (by rw [len_nmD]; omega) fun d1 h1 r1 g1 f1 q1c k1 => ?_
      have hc1 := f1 c _ ho1 nrn
      have ht1 : RowAt h1 dt (tyD sc) := hs1.ty.frame fun i e => by
        obtain ⟨_, _, _, _, e2⟩ := hs1.ty.arow e
        rw [e2]; exact f1 i _ e2 (hne i e)
      simp (maxSteps := 1000000) only [hc1, i_appendA, cellAt, List.all_cons, List.all_nil, Bool.and_true, tb74c_e, zzK, seval]
      refine appA_at (c := c) ht1 ⟨rfl, rfl⟩ (by omega) (by rw [len_tyD]; omega) fun d2 h2 r2 g2 f2 q2c k2 => ?_
      have hc2 := f2 c _ hc1 nrt
      simp (maxSteps := 1000000) only [hc2, k1.1, k1.2, k2.1, k2.2, retD_normal, leav_nil, finD, tb74c_e, zzK, seval]
      have hx : ∀ i, rowOf d1 = some i → rowOf dt ≠ some i := fun i e1 e2 => by
        rcases q1c i e1 with e3 | e3
        · exact hne i e2 e3
        · obtain ⟨_, _, _, _, e4⟩ := hs1.ty.arow e2
          rw [e4] at e3; cases e3
      have r1' : RowAt h2 d1 (nmD sc ++ [[.str s]]) := r1.frame fun i e => by
        obtain ⟨_, _, _, _, e2⟩ := r1.arow e
        rw [e2]; exact f2 i _ e2 (hx i e)
      have fc : ∀ {d xs} (o : AObj), RowAt h2 d xs → RowAt (h2.set c o) d xs := fun o r => r.frame fun i e => by
        obtain ⟨_, _, _, _, e2⟩ := r.arow e
        have : i ≠ c := fun x => by rw [x, hc2] at e2; cases e2
        simp [this]
      rw [nmD_snoc] at r1'
      rw [tyD_snoc] at r2
      refine .inl ⟨_, AHeap.sub_refl _, hk _ d1 d2 ⟨?_, fc _ r1', fc _ r2, fun r v o l r' v' o' l' e1 e2 e3 => ?_⟩ (((hg0.trans g1).trans g2).trans (Grow.set (.inl rfl) (by simp [hc2])))⟩
      · simp [cObj_mk]
      · subst e3
        have a1 : rowOf d1 = some r := by rw [e1]; rfl
        have a2 : rowOf d2 = some r := by rw [e2]; rfl
        rcases q2c r a2 with e3 | e3
        · exact hx r a1 e3
        · obtain ⟨_, _, _, _, e4⟩ := r1.arow a1
          rw [e4] at e3; cases e3
    | some o =>
      obtain ⟨ok, ot, os, on, ol⟩ := o
      cases d : (ok == 2) with
      | true =>
        have d' : (ok != 2) = false := by simp only [bne, d]; rfl
        simp only [hf, hq, Option.isNone_none, Bool.true_and, Nd.kD, d', Bool.false_eq_true, if_false] at hk
        simp (maxSteps := 1000000) only [Option.getD_none, Option.isSome_none, ho, q100c_mk, findD, hq, enc_mk, tb74c_e, zzK, seval]
        intro i1 n1
        simp (maxSteps := 1000000) only [n1, d', cNeed, q49c, crP_err, cond_false, panD, leav_nil, finD, zzK, seval]
        exact ⟨h, sub_fr n1, hk⟩
      | false =>
        have d' : (ok != 2) = true := by simp only [bne, d]; rfl
        simp only [hf, hq, Option.isNone_none, Bool.true_and, Nd.kD, d', if_true] at hk
        simp (maxSteps := 1000000) only [Option.getD_none, Option.isSome_none, ho, q100c_mk, findD, hq, enc_mk, tb74c_e, zzK, seval]
        intro i1 n1
        have c1c : ¬ c = i1 := fun e => by subst e; rw [n1] at ho; cases ho
        have c1c' : ¬ i1 = c := fun e => c1c e.symm
        simp (maxSteps := 1000000) only [n1, c1c, c1c', ho, d', cNeed, q49c, crP_ok, cond_true, tb74c_e, zzK, seval]
        have hs1 := hs.ext (h' := h.set i1 (.cells [.int .i64 ok, .int .i64 ot, .str os, .int .i64 on, .sl (Nd.encs ol)])) ((Ext.refl h).set n1)
        have hg0 : Grow h (h.set i1 (.cells [.int .i64 ok, .int .i64 ot, .str os, .int .i64 on, .sl (Nd.encs ol)])) c := Grow.set (.inr n1) (by simp [n1])
        generalize hH : h.set i1 (.cells [.int .i64 ok, .int .i64 ot, .str os, .int .i64 on, .sl (Nd.encs ol)]) = H at hs1 hg0 ⊢
        have ho1 := hs1.obj
        rw [cObj_mk] at ho1
        have nr : ∀ d xs, RowAt H d xs → rowOf d ≠ some c := fun d xs hr e => by
          obtain ⟨_, _, _, _, e2⟩ := hr.arow e
          rw [e2] at ho1; cases ho1
        have nrt := nr _ _ hs1.ty
        have nrn := nr _ _ hs1.nm
        have hne : ∀ i, rowOf dt = some i → rowOf dn ≠ some i := fun i e1 e2 => by
          cases dt <;> cases dn <;> simp only [rowOf, reduceCtorEq, Option.some.injEq] at e1 e2
          exact hs.ne _ _ _ _ _ _ _ _ rfl rfl (e2.trans e1.symm)
        refine appA_at (c := c) hs1.nm ⟨rfl, rfl⟩ (by omega) (by rw [len_nmD]; omega) fun d1 h1 r1 g1 f1 q1c k1 => ?_
        have hc1 := f1 c _ ho1 nrn
        have ht1 : RowAt h1 dt (tyD sc) := hs1.ty.frame fun i e => by
          obtain ⟨_, _, _, _, e2⟩ := hs1.ty.arow e
          rw [e2]; exact f1 i _ e2 (hne i e)
        simp (maxSteps := 1000000) only [hc1, i_appendA, cellAt, List.all_cons, List.all_nil, Bool.and_true, tb74c_e, zzK, seval]
        refine appA_at (c := c) ht1 ⟨rfl, rfl⟩ (by omega) (by rw [len_tyD]; omega) fun d2 h2 r2 g2 f2 q2c k2 => ?_
        have hc2 := f2 c _ hc1 nrt
        simp (maxSteps := 1000000) only [hc2, k1.1, k1.2, k2.1, k2.2, retD_normal, leav_nil, finD, tb74c_e, zzK, seval]
        have hx : ∀ i, rowOf d1 = some i → rowOf dt ≠ some i := fun i e1 e2 => by
          rcases q1c i e1 with e3 | e3
          · exact hne i e2 e3
          · obtain ⟨_, _, _, _, e4⟩ := hs1.ty.arow e2
            rw [e4] at e3; cases e3
        have r1' : RowAt h2 d1 (nmD sc ++ [[.str s]]) := r1.frame fun i e => by
          obtain ⟨_, _, _, _, e2⟩ := r1.arow e
          rw [e2]; exact f2 i _ e2 (hx i e)
        have fc : ∀ {d xs} (o : AObj), RowAt h2 d xs → RowAt (h2.set c o) d xs := fun o r => r.frame fun i e => by
          obtain ⟨_, _, _, _, e2⟩ := r.arow e
          have : i ≠ c := fun x => by rw [x, hc2] at e2; cases e2
          simp [this]
        rw [nmD_snoc] at r1'
        rw [tyD_snoc] at r2
        refine .inl ⟨_, AHeap.sub_refl _, hk _ d1 d2 ⟨?_, fc _ r1', fc _ r2, fun r v o l r' v' o' l' e1 e2 e3 => ?_⟩ (((hg0.trans g1).trans g2).trans (Grow.set (.inl rfl) (by simp [hc2])))⟩
        · simp [cObj_mk]
        · subst e3
          have a1 : rowOf d1 = some r := by rw [e1]; rfl
          have a2 : rowOf d2 = some r := by rw [e2]; rfl
          rcases q2c r a2 with e3 | e3
          · exact hx r a1 e3
          · obtain ⟨_, _, _, _, e4⟩ := r1.arow a1
            rw [e4] at e3; cases e3
def tb76c : Tab := tb74c.addE 76 cDef cDef_mono
theorem tb76c_q : tb76c.q = tb74c.q := rfl
theorem tb76c_a : tb76c.a = tb74c.a := rfl
theorem tb76c_c (g : FuncId) (args : List D) (h : AHeap) (K E : D → AHeap → Prop) : tb76c.c g args h K E = if g = 76 then cDef args h K E else tb74c.c g args h K E := rfl
theorem tb76c_ok : tb76c.ok Tryz.prog := Tab.addE_ok tb74c_ok cDef_ok
theorem tb76c_e : type_of% (And.intro (And.intro @tb76c_q (And.intro @tb76c_a @tb76c_c)) @tb74c_e) := (And.intro (And.intro @tb76c_q (And.intro @tb76c_a @tb76c_c)) @tb74c_e)
end
end Go.Proofs.YtpagdhbmbnoddaaGreatDoor.Zz
namespace Go.Proofs.YtpagdhbmbnoddaaGreatDoor.Zz
theorem cutD_all {h : AHeap} {r v l sz cur : Nat} {xs : List (List D)} {old : List (Nat × Nat)} (ho : h.f r = some (.arow sz cur xs old)) (hk : Knows v l cur xs.length old) (hd : ∀ e ∈ old, e.1 < cur) :
    ∃ cur' old', cutD h (.row r v 0 l) = some (.row r cur' 0 l, h.set r (.arow sz cur' (xs.take l) old')) ∧ (∀ e ∈ old', e.1 < cur') ∧ (∀ v' l', (v', l') ∈ old → v' ≤ v → Knows v' l' cur' l old') ∧ Knows v l cur' l old' := by
  by_cases hc : v = cur ∧ l = xs.length
  · obtain ⟨rfl, rfl⟩ := hc
    refine ⟨v, old, ?_, hd, fun v' l' hm _ => .inr hm, .inl ⟨rfl, rfl⟩⟩
    simp only [cutD, ho, if_true, and_self]
    congr 2
    refine AHeap.ext fun i => ?_
    simp only [AHeap.set_f, List.take_length]
    split
    · rename_i e; subst e; exact ho
    · rfl
  · have hm : (v, l) ∈ old := hk.resolve_left hc
    have key : ∀ v' l', (v', l') ∈ old → v' ≤ v → Knows v' l' (cur + 1) l (old.filter fun e => decide (e.1 ≤ v)) := fun v' l' hm' hle => .inr (List.mem_filter.2 ⟨hm', by simpa using hle⟩)
    refine ⟨cur + 1, old.filter fun e => decide (e.1 ≤ v), ?_, fun e he => Nat.lt_succ_of_lt (hd e (List.mem_filter.1 he).1), key, key v l hm (Nat.le_refl _)⟩
    simp only [cutD, ho, if_true, if_neg hc, if_pos hm]
theorem cut_view {h0 h : AHeap} {dn : D} {xs : List (List D)} (r0 : RowAt h0 dn xs) (hv : ∀ d ys, ViewAt h0 d ys → ViewAt h d ys) :
    ∃ dn' h', cutD h dn = some (dn', h') ∧ RowAt h' dn' xs ∧ (∀ i o, h.f i = some o → rowOf dn ≠ some i → h'.f i = some o) ∧ (∀ d ys, ViewAt h0 d ys → ViewAt h' d ys) ∧ rowOf dn' = rowOf dn ∧ cellOk dn' = true ∧ cellsD dn' = [dn'] ∧ ∀ i, h.f i ≠ none → h'.f i ≠ none := by
  rcases r0 with ⟨rfl, rfl⟩ | ⟨r, v, old0, rfl, g2, g3⟩
  · exact ⟨.nilsl, h, rfl, .inl ⟨rfl, rfl⟩, fun _ _ e _ => e, hv, rfl, rfl, rfl, fun _ e => e⟩
  · have me := hv _ _ (RowAt.view (.inr ⟨r, v, old0, rfl, g2, g3⟩))
    rcases me with ⟨e, _⟩ | ⟨r1, v1, cur, ys, old, e1, e2, e3, e4, e5, e6⟩
    · cases e
    · cases e1
      obtain ⟨cur', old', c1c, c2c, c3c, c4c⟩ := cutD_all e2 e5 e6
      have hvc : v ≤ cur := by
        rcases e5 with ⟨a, _⟩ | a
        · omega
        · have := e6 _ a; simp only at this; omega
      refine ⟨_, _, c1c, .inr ⟨r, cur', old', rfl, by simp [← e3], c2c⟩, fun i o e hn => ?_, fun d zs vz => ?_, rfl, rfl, rfl, fun i e => dom_set e⟩
      · have : i ≠ r := fun x => hn (by rw [x]; rfl)
        simp [this, e]
      · have vz1 := hv d zs vz
        rcases vz with vz | ⟨r', v', cur0, ys0, old0', f1, f2, f3, f4, f5, f6⟩
        · exact .inl vz
        · subst f1
          rcases vz1 with ⟨e, _⟩ | ⟨r2, v2, cur2, ys2, old2, k1, k2, k3, k4, k5, k6⟩
          · cases e
          · cases k1
            by_cases hrr : r' = r
            · subst hrr
              rw [g2] at f2
              cases f2
              rw [e2] at k2
              cases k2
              have hv'v : v' ≤ v := by
                rcases f5 with ⟨a, _⟩ | a
                · omega
                · have := g3 _ a; simp only at this; omega
              have kn : Knows v' zs.length cur' xs.length old' := by
                rcases k5 with ⟨a, b⟩ | a
                · have hvv : v' = v := by omega
                  have hll : zs.length = xs.length := by
                    rcases f5 with ⟨_, b'⟩ | a'
                    · exact b'
                    · have := g3 _ a'; simp only at this; omega
                  rw [hvv, hll]; exact c4c
                · exact c3c _ _ a hv'v
              refine .inr ⟨r', v', cur', xs, old', rfl, by simp [← e3], f3, f4, kn, c2c⟩
            · exact .inr ⟨r', v', cur2, ys2, old2, rfl, by simp [hrr, k2], k3, k4, k5, k6⟩
theorem cut_scope {h0 h : AHeap} {c : Nat} {p : Nd} {sc sc1 : Scp} {dn dt dn1 dt1 : D} {ans : Int} (s0c : ScAt h0 c p sc dn dt ans) (s1c : ScAt h c p sc1 dn1 dt1 ans) (g : Grow h0 h c) :
    ∃ dn' dt' h', cutV h (.agg [dn, dt]) = some (.agg [dn', dt'], h') ∧ h'.f c = some (cObj p dn1 dt1 ans) ∧ cellOk dn' = true ∧ cellOk dt' = true ∧ cellsD dn' = [dn'] ∧ cellsD dt' = [dt'] ∧
      ScAt (h'.set c (cObj p dn' dt' ans)) c p sc dn' dt' ans ∧ Grow h0 (h'.set c (cObj p dn' dt' ans)) c ∧ (∀ i o, h.f i = some o → (∀ sz ver xs old, o ≠ .arow sz ver xs old) → h'.f i = some o) := by
  obtain ⟨dn', h1, a1, a2, a3, a4, a5, a6, a7, a8⟩ := cut_view s0c.nm g.view
  obtain ⟨dt', h2, b1, b2, b3, b4, b5, b6, b7, b8⟩ := cut_view s0c.ty a4
  have hno : ∀ i o, h.f i = some o → (∀ sz ver xs old, o ≠ .arow sz ver xs old) → rowOf dn ≠ some i := fun i o e n x => by
    rcases g.view _ _ s0c.nm.view with ⟨q, _⟩ | ⟨r, v, cur, ys, old, q1c, q2c, _⟩
    · rw [q] at x; cases x
    · rw [q1c] at x; cases x
      rw [q2c] at e; cases e; exact n _ _ _ _ rfl
  have hno1 : ∀ i o, h1.f i = some o → (∀ sz ver xs old, o ≠ .arow sz ver xs old) → rowOf dt ≠ some i := fun i o e n x => by
    rcases a4 _ _ s0c.ty.view with ⟨q, _⟩ | ⟨r, v, cur, ys, old, q1c, q2c, _⟩
    · rw [q] at x; cases x
    · rw [q1c] at x; cases x
      rw [q2c] at e; cases e; exact n _ _ _ _ rfl
  have keep : ∀ i o, h.f i = some o → (∀ sz ver xs old, o ≠ .arow sz ver xs old) → h2.f i = some o := fun i o e n => by
    have e1 := a3 i o e (hno i o e n)
    exact b3 i o e1 (hno1 i o e1 n)
  have hc := keep c _ s1c.obj (fun _ _ _ _ => by rw [cObj]; simp)
  have ne : ∀ i, rowOf dn = some i → rowOf dt ≠ some i := fun i e1 e2 => by
    cases dn <;> cases dt <;> simp only [rowOf, reduceCtorEq, Option.some.injEq] at e1 e2
    exact s0c.ne _ _ _ _ _ _ _ _ rfl rfl (e1.trans e2.symm)
  have r2 : RowAt h2 dn' (nmD sc) := a2.frame fun i e => by
    obtain ⟨_, _, _, _, e2⟩ := a2.arow e
    rw [e2]; exact b3 i _ e2 (ne i (a5 ▸ e))
  have fc : ∀ {d xs} (o : AObj), RowAt h2 d xs → RowAt (h2.set c o) d xs := fun o r => r.frame fun i e => by
    obtain ⟨_, _, _, _, e2⟩ := r.arow e
    have : i ≠ c := fun x => by rw [x, hc, cObj] at e2; cases e2
    simp [this]
  refine ⟨dn', dt', h2, cutV_two a1 b1, hc, a6, b6, a7, b7, ⟨by simp, fc _ r2, fc _ b2, fun r v o l r' v' o' l' e1 e2 e3 => ?_⟩, ⟨fun i o e n k => ?_, fun d xs v => ?_, fun i e => dom_set (b8 i (a8 i (g.dom i e)))⟩, keep⟩
  · subst e3
    exact ne r (by rw [← a5, e1]; rfl) (by rw [← b5, e2]; rfl)
  · rw [AHeap.set_f, if_neg n]
    exact keep i o (g.keep i o e n k) k
  · exact (Grow.set (c := c) (.inl rfl) (by rw [hc, cObj]; simp)).view d xs (b4 d xs v)
end Go.Proofs.YtpagdhbmbnoddaaGreatDoor.Zz
namespace Go.Proofs.YtpagdhbmbnoddaaGreatDoor.Zz
noncomputable section
def p75c : Plan := ⟨⟨[(10, 4)], [(1, 3), (8, 4)], [], [((8, 4), [(.t 5)])], [((8, 1), (.t 5))], []⟩, [(8, [0, 1, 2, 3, 4, 5, 6, 7, 8])], [], false⟩
def s75c : Stm :=
 .seq (.ops [⟨.box (.t 1), some 3, none, false⟩,
 ⟨.alloc [(.int .i64 0), (.int .i64 0), (.str []), (.int .i64 0), .nilsl], some 4, none, false⟩])
 (.seq (.ops [⟨.fieldAddr 0 (.t 3), some 9, none, true⟩,
 ⟨.load none (.t 9), some 10, none, false⟩,
 ⟨.bin .eql (.t 10) (.c (.int .i64 6)), some 11, none, true⟩,
 ⟨.call (.f 49) [(.t 11), (.c (.int .i64 125))], some 12, none, false⟩])
 (.seq (.ops [⟨.load (some 5) (.t 3), some 13, none, false⟩,
 ⟨.alloc [(.int .i64 0), (.int .i64 0), (.str []), (.int .i64 0), .nilsl], some 5, none, false⟩,
 ⟨.store 5 (.t 5) (.t 13), none, none, false⟩])
 (.seq (.ops [⟨.fieldAddr 4 (.t 5), some 14, none, true⟩,
 ⟨.store 1 (.t 14) (.c .nilsl), none, none, false⟩])
 (.seq (.ops [⟨.mov (.t 0), some 15, none, true⟩,
 ⟨.nilCheck (.t 15), some 16, none, true⟩,
 ⟨.fieldAddr 5 (.t 16), some 17, none, true⟩,
 ⟨.load (some 2) (.t 17), some 18, none, false⟩,
 ⟨.alloc [.nilsl, .nilsl], some 6, none, false⟩,
 ⟨.store 2 (.t 6) (.t 18), none, none, false⟩])
 (.seq (.seq (.ops [⟨.fieldAddr 4 (.t 3), some 19, none, true⟩,
 ⟨.load none (.t 19), some 20, none, false⟩,
 ⟨.len .sl (.t 20), some 21, none, false⟩,
 ⟨.mov (.c (.int .i64 0)), some 22, none, true⟩])
 (.block 0 (.loop (.seq (.ops [⟨.bin .lss (.t 22) (.t 21), some 23, none, true⟩])
 (.seq (.cond (.t 23)
 (.skip)
 (.exit 0))
 (.seq (.block 1 (.seq (.ops [⟨.indexAddrS 5 (.t 20) (.t 22), some 24, none, false⟩,
 ⟨.load (some 5) (.t 24), some 25, none, false⟩,
 ⟨.alloc [(.int .i64 0), (.int .i64 0), (.str []), (.int .i64 0), .nilsl], some 8, none, false⟩,
 ⟨.store 5 (.t 8) (.t 25), none, none, false⟩])
 (.opsD 26 [⟨.fieldAddr 4 (.t 5), some 26, none, true⟩,
 ⟨.loadOf none (.t 26) (.t 5), some 27, none, false⟩,
 ⟨.mov (.t 0), some 28, none, true⟩,
 ⟨.load (some 5) (.t 8), some 29, none, false⟩,
 ⟨.callNe (.f 98) [(.t 28), (.t 29)] [(.t 5)], some 30, none, false⟩,
 ⟨.buildSlice 5 [(.int .i64 0), (.int .i64 0), (.str []), (.int .i64 0), .nilsl] 1 [(0, (.t 30))] false, some 31, none, true⟩,
 ⟨.append 5 64 false (.t 27) (.t 31), some 32, none, false⟩,
 ⟨.fieldAddr 4 (.t 5), some 33, none, true⟩,
 ⟨.store 1 (.t 33) (.t 32), none, none, false⟩])))
 (.ops [⟨.bin .add (.t 22) (.c (.int .i64 1)), some 34, none, true⟩,
 ⟨.mov (.t 34), some 22, none, true⟩])))))))
 (.seq (.ops [⟨.mov (.t 0), some 35, none, true⟩,
 ⟨.load (some 2) (.t 6), some 36, none, false⟩,
 ⟨.nilCheck (.t 35), some 37, none, true⟩,
 ⟨.fieldAddr 5 (.t 37), some 38, none, true⟩,
 ⟨.storeB 2 (.t 38) (.t 36), none, none, false⟩])
 (.seq (.ops [⟨.load (some 5) (.t 5), some 39, none, false⟩,
 ⟨.store 5 (.t 4) (.t 39), none, none, false⟩])
 (.ret))))))))
theorem st75c : stmOf Tryz.prog 75 p75c = some (s75c, [.cell 4 (some 5)], 40) := by kernel_rfl
theorem Grow.put {h A : AHeap} {c i : Nat} {o : AObj} (g : Grow h A c) (hi : h.f i = none ∨ i = c) (ho : ∀ sz ver xs old, A.f i ≠ some (.arow sz ver xs old)) : Grow h (A.set i o) c where
  dom := fun j e => dom_set (g.dom j e)
  keep := fun j q e n k => by
    have : j ≠ i := fun x => by
      rcases hi with hi | hi
      · rw [x, hi] at e; cases e
      · exact n (x.trans hi)
    rw [AHeap.set_f, if_neg this]; exact g.keep j q e n k
  view := fun d xs v => by
    rcases g.view d xs v with v | ⟨r, v, cur, ys, old, h1, h2, h3⟩
    · exact .inl v
    · have : r ≠ i := fun x => by rw [x] at h2; exact ho _ _ _ _ h2
      exact .inr ⟨r, v, cur, ys, old, h1, by simp [this, h2], h3⟩
theorem ScAt.put {A : AHeap} {c i : Nat} {o : AObj} {p : Nd} {sc : Scp} {dn dt : D} {ans : Int} (s : ScAt A c p sc dn dt ans) (hi : i ≠ c) (ho : ∀ sz ver xs old, A.f i ≠ some (.arow sz ver xs old)) : ScAt (A.set i o) c p sc dn dt ans := by
  have fr : ∀ {d xs}, RowAt A d xs → RowAt (A.set i o) d xs := fun r => r.frame fun j e => by
    obtain ⟨_, _, _, _, e2⟩ := r.arow e
    have : j ≠ i := fun x => by rw [x] at e2; exact ho _ _ _ _ e2
    simp [this]
  exact ⟨by rw [AHeap.set_f, if_neg (Ne.symm hi)]; exact s.obj, fr s.nm, fr s.ty, s.ne⟩
theorem RowAt.cell {h : AHeap} {d : D} {xs : List (List D)} (r : RowAt h d xs) : cellOk d = true := by
  rcases r with ⟨rfl, _⟩ | ⟨_, _, _, rfl, _⟩ <;> rfl
theorem stmtsF_nil (ks : List Nd) (ans : Int) (sc : Scp) : stmtsF ks ans [] sc = .ok ([], sc) := by rw [stmtsF]
theorem stmtsF_cons (ks : List Nd) (ans : Int) (x : Nd) (l : List Nd) (sc : Scp) : stmtsF ks ans (x :: l) sc = match stmtF ks ans x sc with
    | .ok (x', sc') => match stmtsF ks ans l sc' with
      | .ok (l', sc'') => .ok (x' :: l', sc'')
      | .error e => .error e
    | .error e => .error e := by rw [stmtsF]; rfl
def afterS (ks : List Nd) (ans : Int) (done l : List Nd) (sc : Scp) : CR (List Nd × Scp) := match stmtsF ks ans l sc with
  | .ok (l', sc') => .ok (done ++ l', sc')
  | .error e => .error e
theorem afterS_nil (ks : List Nd) (ans : Int) (done : List Nd) (sc : Scp) : afterS ks ans done [] sc = .ok (done, sc) := by rw [afterS, stmtsF_nil]; simp
theorem afterS_cons (ks : List Nd) (ans : Int) (done : List Nd) (x : Nd) (l : List Nd) (sc : Scp) : afterS ks ans done (x :: l) sc = match stmtF ks ans x sc with
    | .ok (x', sc') => afterS ks ans (done ++ [x']) l sc'
    | .error e => .error e := by
  rw [afterS, stmtsF_cons]
  cases stmtF ks ans x sc with
  | error e => rfl
  | ok q =>
    obtain ⟨x', sc'⟩ := q
    simp only [afterS]
    cases stmtsF ks ans l sc' with
    | error e => rfl
    | ok q => obtain ⟨l', sc''⟩ := q; simp
def cStm (G : Nat) (args : List D) (h : AHeap) (K E : D → AHeap → Prop) : Prop := ∃ (c : Nat) (p : Nd) (sc : Scp) (dn dt : D) (ans : Int) (x : Nd), args = [.ptr c 1 0, .agg x.enc] ∧ ScAt h c p sc dn dt ans ∧ x.cnt < G ∧ x.cnt + sc.length ≤ 1000000 ∧
  (match stmtF p.lD ans x sc with
  | .ok (x', sc') => ∀ h' dn' dt', ScAt h' c p sc' dn' dt' ans → Grow h h' c → sc'.length ≤ sc.length + 1 → K (.agg x'.enc) h'
  | .error e => ∀ h', Grow h h' c → E (faultD e) h')
theorem cStm_mono (G : Nat) (args : List D) (h : AHeap) (K E K' E' : D → AHeap → Prop) (hk : ∀ d h, K d h → K' d h) (he : ∀ d h, E d h → E' d h) (c : cStm G args h K E) : cStm G args h K' E' := by
  obtain ⟨c, p, sc, dn, dt, ans, x, a, b, d, e, k⟩ := c
  refine ⟨c, p, sc, dn, dt, ans, x, a, b, d, e, ?_⟩
  split at k
  · exact fun h' dn' dt' x y z => hk _ _ (k h' dn' dt' x y z)
  · exact fun h' g => he _ _ (k h' g)
def tbSt (G : Nat) : Tab := tb76c.addE 98 (cStm G) (cStm_mono G)
theorem tbSt_q {G : Nat} : (tbSt G).q = tb76c.q := rfl
theorem tbSt_a {G : Nat} : (tbSt G).a = tb76c.a := rfl
theorem tbSt_c {G : Nat} (g : FuncId) (args : List D) (h : AHeap) (K E : D → AHeap → Prop) : (tbSt G).c g args h K E = if g = 98 then cStm G args h K E else tb76c.c g args h K E := rfl
theorem tbSt_e : type_of% (And.intro (And.intro @tbSt_q (And.intro @tbSt_a @tbSt_c)) @tb76c_e) := (And.intro (And.intro @tbSt_q (And.intro @tbSt_a @tbSt_c)) @tb76c_e)
theorem fin_node2 {K E : D → AHeap → Prop} {σ : Fr} {A : AHeap} {a i2 r i : Nat} {k T n : Int} {s : List UInt8} {done : List Nd} (hσ : σ.env a = .ptr i2 1 0) (hA : A.f i2 = some (.cells [.int .i64 k, .int .i64 T, .str s, .int .i64 n, ownD r i]))
    (hd : done.length = i) (hr : i ≠ 0 → A.f r = some (.row 5 (i + 2) (Nd.encs done) false)) (hk0 : i = 0 → K (.agg (Nd.enc (.mk k T s n done))) A) (hk1 : i ≠ 0 → K (.agg (Nd.enc (.mk k T s n done))) (A.set r (.row 5 (i + 2) (Nd.encs done) true))) : finD [.cell a (some 5)] (AOut.to K E) σ none A := by
  have e : plain A (.agg [.int .i64 k, .int .i64 T, .str s, .int .i64 n, ownD r i]) = .agg (Nd.enc (.mk k T s n done)) := by
    rw [enc_mk]
    by_cases h0 : i = 0
    · subst h0
      have : done = [] := List.length_eq_zero_iff.1 hd
      subst this
      rw [ownD_zero, encs_nil]; rfl
    · rw [ownD_pos h0]
      simp only [plain, List.map_cons, List.map_nil, hr h0]
      rw [if_pos ⟨trivial, by rw [len_encs, hd]; omega⟩, List.drop_zero, List.take_of_length_le (by rw [len_encs, hd]; omega)]
  refine ⟨[.agg [.int .i64 k, .int .i64 T, .str s, .int .i64 n, ownD r i]], ?_, .inr ⟨frzL A [.agg [.int .i64 k, .int .i64 T, .str s, .int .i64 n, ownD r i]], AHeap.sub_refl _, ?_⟩⟩
  · simp [evRes, hσ, loadD, hA, partD]
  · show K (plain A (.agg [.int .i64 k, .int .i64 T, .str s, .int .i64 n, ownD r i])) _
    rw [e]
    by_cases h0 : i = 0
    · subst h0; exact hk0 rfl
    · have e2 : frzL A [.agg [.int .i64 k, .int .i64 T, .str s, .int .i64 n, ownD r i]] = A.set r (.row 5 (i + 2) (Nd.encs done) true) := by
        rw [ownD_pos h0]
        show frzId A r = _
        rw [frzId, hr h0]
      rw [e2]; exact hk1 h0
set_option maxHeartbeats 1000000 in
theorem block_step (G : Nat) (hT : (tbSt G).ok Tryz.prog) (c : Nat) (p : Nd) (sc : Scp) (dn dt : D) (ans : Int) (x : Nd) (hx : x.cnt < G + 1) (hb : x.cnt + sc.length ≤ 1000000) (h : AHeap) (hs : ScAt h c p sc dn dt ans) (K E : D → AHeap → Prop)
    (hk : match blockF p.lD ans x sc with
      | .ok x' => ∀ h' dn' dt', ScAt h' c p sc dn' dt' ans → Grow h h' c → K (.agg x'.enc) h'
      | .error e => ∀ h', Grow h h' c → E (faultD e) h') : ACalls Tryz.prog 75 [.ptr c 1 0, .agg x.enc] h (AOut.to K E) := by
  refine ACalls.of_stmD hT (dc := DTab.none) (fun _ _ => DTab.none_ok) (by kernel_rfl) st75c (by simp) ?_
  rw [vc_todo]
  obtain ⟨k, t, s, n, l⟩ := x
  have hcnt : ∀ y ∈ l, y.cnt < G := fun y hy => by have := cnt_kid (k := k) (t := t) (s := s) (n := n) hy; omega
  have hln : Nd.cnts l + sc.length ≤ 1000000 := by rw [cnt_mk] at hb; omega
  have hll : l.length ≤ 1000000 := by have := cnts_len l; omega
  unfold blockF at hk
  rw [enc_mk]
  simp (maxSteps := 1000000) only [s75c, tbSt_e, tb76c_e, zzK, seval]
  intro i1 k1 i2 n1 n2 k2
  simp (maxSteps := 1000000) only [n1, n2, tbSt_e, tb76c_e, zzK, seval]
  have g2 : ∀ o o', Grow h ((h.set i1 o).set i2 o') c := fun o o' => ((Grow.refl h c).put (.inl k1) (by simp [k1])).put (.inl k2) (by simp [n1, k2])
  cases c6c : (k == 6) with
  | false =>
    have c6c' : ((Nd.mk k t s n l).kD == 6) = false := c6c
    rw [if_neg (by rw [c6c']; simp)] at hk
    simp (maxSteps := 1000000) only [cNeed, q49c, crP_err, cond_false, panD, leav_nil, finD, zzK, seval]
    exact ⟨_, AHeap.sub_refl _, hk _ (g2 _ _)⟩
  | true =>
    have c6c' : ((Nd.mk k t s n l).kD == 6) = true := c6c
    rw [if_pos c6c'] at hk
    simp only [Nd.kD, Nd.tD, Nd.sD, Nd.lD] at hk
    simp (maxSteps := 1000000) only [cNeed, q49c, crP_ok, cond_true, n1, n2, tbSt_e, tb76c_e, zzK, seval]
    intro i3 m1 m2 m3 m4 k3
    have ho := hs.obj
    obtain ⟨pk, pt, ps, pn, pl⟩ := p
    rw [cObj_mk] at ho
    have d1 : ¬ c = i1 := fun e => by rw [e, k1] at ho; cases ho
    have d2 : ¬ c = i2 := fun e => by rw [e, k2] at ho; cases ho
    have d3 : ¬ c = i3 := fun e => by rw [e, k3] at ho; cases ho
    have d1' : ¬ i1 = c := fun e => d1 e.symm
    have d2' : ¬ i2 = c := fun e => d2 e.symm
    have d3' : ¬ i3 = c := fun e => d3 e.symm
    have kdn := hs.nm.cell
    have kdt := hs.ty.cell
    simp (maxSteps := 1000000) only [ho, d1, d2, d3, n1, n2, m1, m2, m3, m4, kdn, kdt, List.drop_succ_cons, List.drop_zero, tbSt_e, tb76c_e, zzK, seval]
    intro i4 o1 o2 o3 o4 o5 o6 k4
    have d4 : ¬ c = i4 := fun e => by rw [e, k4] at ho; cases ho
    have d4' : ¬ i4 = c := fun e => d4 e.symm
    simp (maxSteps := 1000000) only [o1, o2, o3, o4, o5, o6, n1, n2, m1, m2, m3, m4, len_encs, tbSt_e, tb76c_e, zzK, seval]
    intro _
    refine run_loop (X := Nat × Nat × List Nd × Scp × D × D × AHeap) (fun z => [(0, .ptr c 1 0), (3, .ptr i1 1 0), (4, .ptr i2 1 0), (5, .ptr i3 1 0), (6, .ptr i4 1 0), (20, .sl (Nd.encs l)), (21, .int .i64 l.length), (22, .int .i64 z.1)]) (fun z => z.2.2.2.2.2.2) (fun z => l.length - z.1)
      (fun z => z.1 ≤ l.length ∧ z.2.2.2.2.2.2.f i1 = some (.cells [.int .i64 k, .int .i64 t, .str s, .int .i64 n, .sl (Nd.encs l)]) ∧ z.2.2.2.2.2.2.f i2 = some (.cells [.int .i64 0, .int .i64 0, .str [], .int .i64 0, .nilsl]) ∧
        z.2.2.2.2.2.2.f i3 = some (.cells [.int .i64 k, .int .i64 t, .str s, .int .i64 n, ownD z.2.1 z.1]) ∧ z.2.2.2.2.2.2.f i4 = some (.cells [dn, dt]) ∧ z.2.2.1.length = z.1 ∧
        (z.1 ≠ 0 → h.f z.2.1 = none ∧ z.2.2.2.2.2.2.f z.2.1 = some (.row 5 (z.1 + 2) (Nd.encs z.2.2.1) false)) ∧
        ScAt z.2.2.2.2.2.2 c (.mk pk pt ps pn pl) z.2.2.2.1 z.2.2.2.2.1 z.2.2.2.2.2.1 ans ∧ Grow h z.2.2.2.2.2.2 c ∧ Nd.cnts (l.drop z.1) + z.2.2.2.1.length ≤ 1000000 ∧ stmtsF pl ans l sc = afterS pl ans z.2.2.1 (l.drop z.1) z.2.2.2.1) (0, 0, [], sc, dn, dt, _) ⟨Nat.zero_le _, ?_, ?_, ?_, ?_, rfl, fun h => absurd rfl h, ?_, ?_, ?_, ?_⟩ ?_ (AHeap.sub_refl _) ?_
    · simp [n1, n2, m1, m2, m3, m4, o1, o2, o3, o4, o5, o6]
    · simp [n1, n2, m1, m2, m3, m4, o1, o2, o3, o4, o5, o6]
    · simp [n1, n2, m1, m2, m3, m4, o1, o2, o3, o4, o5, o6, ownD_zero]
    · simp [n1, n2, m1, m2, m3, m4, o1, o2, o3, o4, o5, o6]
    · exact (((hs.put d1' (by simp [k1])).put d2' (by simp [n1, k2])).put d3' (by simp [m1, m2, m3, m4, k3])).put d4' (by simp [o1, o2, o3, o4, o5, o6, k4])
    · exact ((g2 _ _).put (.inl k3) (by simp [m1, m2, m3, m4, k3])).put (.inl k4) (by simp [o1, o2, o3, o4, o5, o6, k4])
    · simpa using hln
    · rw [List.drop_zero, afterS]
      cases hq : stmtsF pl ans l sc with
      | error e => rfl
      | ok q => obtain ⟨a, b⟩ := q; rfl
    · simp only [zzK, seval]
    rintro ⟨i, r, done, sc1, dn1, dt1, hh⟩ Q ⟨j0, v1, v2, v3, v4, vd, vr, vs, vg, vn, va⟩ hQ
    simp only at j0 v1 v2 v3 v4 vd vr vs vg vn va hQ ⊢
    cases c0c : decide (i < l.length) with
    | true =>
      have c0c : i < l.length := by simpa using c0c
      obtain ⟨y, hy⟩ : ∃ y, l[i]? = some y := ⟨_, List.getElem?_eq_getElem c0c⟩
      have g : ((i : Int) < (l.length : Int)) = True := eq_true (by omega)
      have hym : y ∈ l := List.mem_of_getElem? hy
      have wi : IntKind.i64.wrap ((i : Int) + 1) = ((i + 1 : Nat) : Int) := wrap_succ (by omega)
      have hac : ∀ (K : D → AHeap → Prop) (h : AHeap), askE 5 K h (Nd.encs l) (i : Int) = K (.eptr y.enc 0) h := fun K h => askE_encs hy
      have hyc := hcnt y hym
      rw [drop_consX hy, afterS_cons] at va
      rw [drop_consX hy, cnts_cons] at vn
      obtain ⟨yk, yt, yx, ym, yl⟩ := y
      rw [enc_mk] at hac
      simp (maxSteps := 1000000) only [g, v1, v2, v3, hac, tbSt_e, tb76c_e, zzK, seval]
      intro i7 k7
      have ne_of : ∀ {q : Nat} {o : AObj}, hh.f q = some o → ¬ i7 = q := fun hq e => by rw [e, hq] at k7; cases k7
      have p1c := ne_of v1
      have p2c := ne_of v2
      have p3c := ne_of v3
      have p4c := ne_of v4
      have pc := ne_of vs.obj
      have p1c' : ¬ i1 = i7 := fun e => p1c e.symm
      have p2c' : ¬ i2 = i7 := fun e => p2c e.symm
      have p3c' : ¬ i3 = i7 := fun e => p3c e.symm
      have p4c' : ¬ i4 = i7 := fun e => p4c e.symm
      have kh7 : h.f i7 = none := by
        by_cases e : h.f i7 = none
        · exact e
        · exact absurd k7 (vg.dom i7 e)
      have s7c := fun o => vs.put (o := o) pc (by simp [k7])
      have g7 := fun o => vg.put (o := o) (.inl kh7) (by simp [k7])
      simp (maxSteps := 1000000) only [v1, v2, v3, p1c, p2c, p3c, p1c', p2c', p3c', tbSt_e, tb76c_e, zzK, seval]
      refine ⟨c, .mk pk pt ps pn pl, sc1, dn1, dt1, ans, .mk yk yt yx ym yl, by rw [enc_mk], s7c _, hyc, by omega, ?_⟩
      simp only [Nd.lD]
      cases he : stmtF pl ans (.mk yk yt yx ym yl) sc1 with
      | error e =>
        rw [he] at va
        simp only at va
        rw [va] at hk
        simp only at hk ⊢
        intro h' gh
        intro σ hσ _
        simp only [panD]
        rw [hσ]
        simp only [leav_nil, finD]
        exact ⟨_, AHeap.sub_refl _, hk _ ((g7 _).trans gh)⟩
      | ok q =>
        obtain ⟨y', sc2⟩ := q
        rw [he] at va
        simp only at va ⊢
        intro h' dn2 dt2 vs2 gh hl2
        have nar : ∀ {ds : List D}, ∀ sz ver xs old, AObj.cells ds ≠ .arow sz ver xs old := fun _ _ _ _ e => by cases e
        have u1 := gh.keep i1 _ (by rw [AHeap.set_f, if_neg p1c']; exact v1) d1' nar
        have u2 := gh.keep i2 _ (by rw [AHeap.set_f, if_neg p2c']; exact v2) d2' nar
        have u3 := gh.keep i3 _ (by rw [AHeap.set_f, if_neg p3c']; exact v3) d3' nar
        have u4 := gh.keep i4 _ (by rw [AHeap.set_f, if_neg p4c']; exact v4) d4' nar
        have ur : i ≠ 0 → h'.f r = some (.row 5 (i + 2) (Nd.encs done) false) := fun h0 => by
          obtain ⟨q1c, q2c⟩ := vr h0
          exact gh.keep r _ (by rw [AHeap.set_f, if_neg fun e => ne_of q2c e.symm]; exact q2c) (fun e => by rw [← e, q1c] at ho; cases ho) (fun _ _ _ _ e => by cases e)
        have gg := (g7 _).trans gh
        refine ⟨u3, ⟨len_enc y', enc_ok y'⟩, ?_⟩
        rw [show cellsD (D.agg y'.enc) = y'.enc from rfl, enc_unnil]
        have hxn : (Nd.encs done).length = i := by rw [len_encs, vd]
        refine app_own2c (b := 64) hxn ur ⟨len_enc y', enc_ok y'⟩ (by omega) (by omega) fun r' a1 a2 => ?_
        have kr : h.f r' = none := by
          by_cases h0 : i = 0
          · by_cases e : h.f r' = none
            · exact e
            · exact absurd (a1 h0) (gg.dom r' e)
          · rw [a2 h0]; exact (vr h0).1
        have rne : ∀ {q : Nat} {ds : List D}, h'.f q = some (.cells ds) → ¬ r' = q := fun {q ds} hq e => by
          by_cases h0 : i = 0
          · rw [← e, a1 h0] at hq; cases hq
          · have := ur h0
            rw [← a2 h0, e, hq] at this; cases this
        have r1 := rne u1
        have r2 := rne u2
        have r3 := rne u3
        have r4 := rne u4
        have rc : ¬ r' = c := fun e => by rw [e] at kr; rw [kr] at ho; cases ho
        have rar : ∀ sz ver xs old, h'.f r' ≠ some (.arow sz ver xs old) := fun sz ver xs old e => by
          by_cases h0 : i = 0
          · rw [a1 h0] at e; cases e
          · rw [a2 h0, ur h0] at e; cases e
        have r1' : ¬ i1 = r' := fun e => r1 e.symm
        have r2' : ¬ i2 = r' := fun e => r2 e.symm
        have r3' : ¬ i3 = r' := fun e => r3 e.symm
        have r4' : ¬ i4 = r' := fun e => r4 e.symm
        simp (maxSteps := 1000000) only [u1, u2, u3, r1, r2, r3, r1', r2', r3', wi, tbSt_e, tb76c_e, zzK, seval]
        refine hQ (i + 1, r', done ++ [y'], sc2, dn2, dt2, _) _ _ ⟨c0c, ?_, ?_, ?_, ?_, ?_, fun _ => ⟨kr, ?_⟩, ?_, ?_, by have := cnt_pos (Nd.mk yk yt yx ym yl); simp only; omega, va⟩ (by simp only [ownD_pos (Nat.succ_ne_zero i), zzK, seval]) (AHeap.sub_refl _) (by simp only; omega)
        · simp [r1', u1, m1, m2, m3, m4]
        · simp [r2', u2, m1, m2, m3, m4]
        · simp [ownD_pos (Nat.succ_ne_zero i)]
        · simp [r4', u4, o1, o2, o3, o4, o5, o6]
        · simp [vd]
        · simp [r3, r3', encs_snoc]
        · exact (vs2.put rc rar).put d3' (by simp [r3', u3])
        · exact (gg.put (.inl kr) rar).put (.inl k3) (by simp [r3', u3])
    | false =>
      have e0 : i = l.length := by simp at c0c; omega
      have g : ((i : Int) < (l.length : Int)) = False := eq_false (by omega)
      rw [List.drop_eq_nil_of_le (by omega), afterS_nil] at va
      rw [va] at hk
      simp only at hk
      obtain ⟨dn', dt', h', w1, w2, w3, w4, w5, w6, w7, w8, w9⟩ := cut_scope hs vs vg
      have nar : ∀ {ds : List D}, ∀ sz ver xs old, AObj.cells ds ≠ .arow sz ver xs old := fun _ _ _ _ e => by cases e
      have u1 := w9 i1 _ v1 nar
      have u2 := w9 i2 _ v2 nar
      have u3 := w9 i3 _ v3 nar
      have u4 := w9 i4 _ v4 nar
      have ur : i ≠ 0 → h'.f r = some (.row 5 (i + 2) (Nd.encs done) false) := fun h0 => w9 r _ (vr h0).2 (fun _ _ _ _ e => by cases e)
      rw [cObj_mk] at w2
      simp (maxSteps := 1000000) only [g, v4, tbSt_e, tb76c_e, zzK, seval]
      simp (maxSteps := 1000000) only [w1, tbSt_e, tb76c_e, zzK, seval]
      have hok : cellOk (ownD r i) = true := by unfold ownD; split <;> rfl
      simp (maxSteps := 1000000) only [w2, w3, w4, u1, u2, u3, d1', d2', d3', d4', m1, m2, m3, m4, hok, retD_ret, leav_nil, tbSt_e, tb76c_e, zzK, seval]
      rw [cObj_mk] at w7 w8
      have rn2 : i ≠ 0 → ¬ r = i2 := fun h0 e => by have := ur h0; rw [e, u2] at this; cases this
      have rnc : i ≠ 0 → ¬ r = c := fun h0 e => by have := ur h0; rw [e, w2] at this; cases this
      have sF := w7.put (i := i2) (o := .cells [.int .i64 k, .int .i64 t, .str s, .int .i64 n, ownD r i]) d2' (by simp [d2', u2])
      have gF := w8.put (i := i2) (o := .cells [.int .i64 k, .int .i64 t, .str s, .int .i64 n, ownD r i]) (.inl k2) (by simp [d2', u2])
      refine fin_node2 (i2 := i2) (r := r) (i := i) (done := done) (by simp only [zzK, seval]) (by simp only [zzK, seval]) vd (fun h0 => by simp [rn2 h0, rnc h0, ur h0]) (fun h0 => hk _ dn' dt' sF gF) (fun h0 => hk _ dn' dt' (sF.put (rnc h0) (by simp [rn2 h0, rnc h0, ur h0])) (gF.put (.inl (vr h0).1) (by simp [rn2 h0, rnc h0, ur h0])))
end
end Go.Proofs.YtpagdhbmbnoddaaGreatDoor.Zz
