/- The law of copies. -/
import Derived.Test.YthpgepillaeldaaDoorZA9
set_option linter.unnecessarySimpa false
namespace Go.Proofs.YthpgepillaeldaaDoor.Zz
noncomputable section
set_option linter.unusedVariables false
set_option linter.unusedSimpArgs false
set_option maxRecDepth 20000
mutual
def Nd.wf : Nd → Prop
  | .mk k t s n l => (0 ≤ k ∧ k < 32) ∧ (0 ≤ t ∧ t < 4) ∧ s.length ≤ 64 ∧ (-9223372036854775808 ≤ n ∧ n ≤ 9223372036854775807) ∧ l.length ≤ 7 ∧ Nd.wfs l
def Nd.wfs : List Nd → Prop
  | [] => True
  | x :: l => Nd.wf x ∧ Nd.wfs l
end
theorem wf_mk {k t : Int} {s : List UInt8} {n : Int} {l : List Nd} : Nd.wf (.mk k t s n l) = ((0 ≤ k ∧ k < 32) ∧ (0 ≤ t ∧ t < 4) ∧ s.length ≤ 64 ∧ (-9223372036854775808 ≤ n ∧ n ≤ 9223372036854775807) ∧ l.length ≤ 7 ∧ Nd.wfs l) := by rw [Nd.wf]
theorem wfs_nil : Nd.wfs [] := by rw [Nd.wfs]; trivial
theorem wfs_cons {x : Nd} {l : List Nd} : Nd.wfs (x :: l) = (x.wf ∧ Nd.wfs l) := by rw [Nd.wfs]
theorem wfs_mem {l : List Nd} (h : Nd.wfs l) : ∀ x ∈ l, x.wf := by
  induction l with
  | nil => simp
  | cons y l ih =>
    rw [wfs_cons] at h
    intro x hx
    rcases List.mem_cons.1 hx with rfl | hx
    · exact h.1
    · exact ih h.2 x hx
theorem wfs_app {l r : List Nd} (h : Nd.wfs l) (h' : Nd.wfs r) : Nd.wfs (l ++ r) := by
  induction l with
  | nil => exact h'
  | cons y l ih =>
    rw [wfs_cons] at h
    rw [List.cons_append, wfs_cons]
    exact ⟨h.1, ih h.2⟩
theorem unLe_leB2 : ∀ (m n : Nat), n < 256 ^ m → unLe (leB n m) = n
  | 0, n, h => by simp at h; simp [leB, unLe, h]
  | m + 1, n, h => by
    have : n / 256 < 256 ^ m := by rw [Nat.pow_succ] at h; omega
    simp only [leB, unLe, unLe_leB2 m _ this]
    have e : (UInt8.ofNat n).toNat = n % 256 := by simp
    rw [e]; omega
theorem leB_inj {n n' m : Nat} (h : n < 256 ^ m) (h' : n' < 256 ^ m) (e : leB n m = leB n' m) : n = n' := by
  rw [← unLe_leB2 m n h, e, unLe_leB2 m n' h']
theorem uB_inj1 {k k' : Int} (h : 0 ≤ k ∧ k < 256) (h' : 0 ≤ k' ∧ k' < 256) (e : uB k 1 = uB k' 1) : k = k' := by
  have := leB_inj (m := 1) (by omega) (by omega) e
  omega
theorem uB_inj8 {k k' : Int} (h : -9223372036854775808 ≤ k ∧ k ≤ 9223372036854775807) (h' : -9223372036854775808 ≤ k' ∧ k' ≤ 9223372036854775807) (e : uB k 8 = uB k' 8) : k = k' := by
  have := leB_inj (m := 8) (by omega) (by omega) e
  omega
theorem encFs_inj : ∀ (l l' : List Nd), (∀ x ∈ l, ∀ y : Nd, y.wf → ∀ r1 r2, encF x ++ r1 = encF y ++ r2 → x = y ∧ r1 = r2) → l.length = l'.length → Nd.wfs l' → ∀ r1 r2, encFs l ++ r1 = encFs l' ++ r2 → l = l' ∧ r1 = r2
  | [], [], _, _, _, r1, r2, e => by
    rw [encFs_nil, List.nil_append] at e
    exact ⟨rfl, e⟩
  | x :: l, y :: l', hx, hl, hw, r1, r2, e => by
    rw [encFs_cons, encFs_cons, List.append_assoc, List.append_assoc] at e
    rw [wfs_cons] at hw
    obtain ⟨e1, e2⟩ := hx x (by simp) y hw.1 _ _ e
    obtain ⟨e3, e4⟩ := encFs_inj l l' (fun z hz => hx z (by simp [hz])) (by simpa using hl) hw.2 _ _ e2
    exact ⟨by rw [e1, e3], e4⟩
  | [], _ :: _, _, hl, _, _, _, _ => by simp at hl
  | _ :: _, [], _, hl, _, _, _, _ => by simp at hl
theorem encF_inj : ∀ x : Nd, x.wf → ∀ y : Nd, y.wf → ∀ r1 r2, encF x ++ r1 = encF y ++ r2 → x = y ∧ r1 = r2 := by
  intro x
  induction x using Nd.ind with
  | h x ih =>
    intro hx y hy r1 r2 e
    obtain ⟨k, t, s, n, l⟩ := x
    obtain ⟨k', t', s', n', l'⟩ := y
    rw [wf_mk] at hx hy
    rw [encF_mk, encF_mk] at e
    simp only [List.append_assoc] at e
    obtain ⟨e1, e⟩ := List.append_inj e (by simp [uB, len_leB])
    obtain ⟨e2, e⟩ := List.append_inj e (by simp [uB, len_leB])
    obtain ⟨e3, e⟩ := List.append_inj e (by simp [len_leB])
    have e3 := leB_inj (m := 4) (by omega) (by omega) e3
    obtain ⟨e4, e⟩ := List.append_inj e e3
    obtain ⟨e5, e⟩ := List.append_inj e (by simp [uB, len_leB])
    obtain ⟨e6, e⟩ := List.append_inj e (by simp [len_leB])
    have e6 := leB_inj (m := 1) (by omega) (by omega) e6
    obtain ⟨e7, e8⟩ := encFs_inj l l' (fun z hz w hw => ih z (cnt_kid hz) (wfs_mem hx.2.2.2.2.2 z hz) w hw) e6 hy.2.2.2.2.2 _ _ e
    have f1 := uB_inj1 (by omega) (by omega) e1
    have f2 := uB_inj1 (by omega) (by omega) e2
    have f5 := uB_inj8 hx.2.2.2.1 hy.2.2.2.1 e5
    subst f1 f2 e4 f5 e7
    exact ⟨rfl, e8⟩
theorem encF_len : ∀ x : Nd, x.wf → (encF x).length ≤ 79 * x.cnt := by
  intro x
  induction x using Nd.ind with
  | h x ih =>
    intro hx
    obtain ⟨k, t, s, n, l⟩ := x
    rw [wf_mk] at hx
    have hk : ∀ l : List Nd, (∀ y ∈ l, (encF y).length ≤ 79 * y.cnt) → (encFs l).length ≤ 79 * Nd.cnts l := by
      intro l
      induction l with
      | nil => intro _; rw [encFs_nil, cnts_nil]; exact Nat.le_refl _
      | cons y l ih =>
        intro h
        rw [encFs_cons, cnts_cons, List.length_append]
        have := h y (by simp)
        have := ih (fun z hz => h z (by simp [hz]))
        omega
    have := hk l (fun y hy => ih y (cnt_kid hy) (wfs_mem hx.2.2.2.2.2 y hy))
    rw [encF_mk, cnt_mk]
    simp only [List.length_append, uB, len_leB]
    omega
/-- Rows whose numbers fit. -/
def trOk (l : List Tr) : Prop := ∀ x ∈ l, -9223372036854775808 ≤ x.n ∧ x.n ≤ 9223372036854775807
theorem skip_wf : skipN.wf := by unfold skipN; rw [wf_mk]; exact ⟨by omega, by omega, by simp, by omega, by simp, wfs_nil⟩
theorem madeL_wf {g : List Tr → Nd × List Tr} {d : Nat} (hs : ∀ l, (g l).2 <:+ l) (hg : ∀ l, trOk l → (g l).1.wf) : ∀ (c : Nat) (l : List Tr) (acc : List Nd), trOk l → Nd.wfs acc → Nd.wfs (madeL g d c l acc).1 ∧ (madeL g d c l acc).1.length ≤ acc.length + c
  | 0, l, acc, hl, ha => ⟨ha, Nat.le_refl _⟩
  | c + 1, l, acc, hl, ha => by
    unfold madeL
    split
    · obtain ⟨a1, a2⟩ := madeL_wf hs hg c (g l).2 (acc ++ [(g l).1]) (fun x hx => hl x ((hs l).mem hx)) (wfs_app ha (by rw [wfs_cons]; exact ⟨hg l hl, wfs_nil⟩))
      refine ⟨a1, ?_⟩
      rw [List.length_append, List.length_singleton] at a2
      omega
    · exact ⟨ha, by simp only; omega⟩
theorem madeF_wf (f : Nat) : ∀ (l : List Tr) (d : Nat), trOk l → (madeF f l d).1.wf := by
  induction f with
  | zero => intro l d _; rw [madeF_zero]; exact skip_wf
  | succ f ih =>
    intro l d hl
    cases l with
    | nil => rw [madeF_nil]; exact skip_wf
    | cons x l =>
      rw [madeF_cons]
      have h5 := lowB_lt x.k 5
      have h2 := lowB_lt x.t 2
      have h3 := lowB_lt x.c 3
      obtain ⟨a1, a2⟩ := madeL_wf (d := d) (fun l => madeF_suf f l (d + 1)) (fun l hl => ih l (d + 1) hl) (lowB x.c 3) l [] (fun y hy => hl y (by simp [hy])) wfs_nil
      simp only [List.length_nil] at a2
      show Nd.wf (.mk _ _ _ _ _)
      rw [wf_mk]
      exact ⟨by omega, by omega, by simp [List.length_take]; omega, hl x (by simp), by omega, a1⟩
theorem madeL_cnt {g : List Tr → Nd × List Tr} {d F : Nat} (hs : ∀ l, (g l).2 <:+ l) (hg : ∀ l, l ≠ [] → l.length ≤ F → (g l).1.cnt + (g l).2.length ≤ l.length) : ∀ (c : Nat) (l : List Tr) (acc : List Nd), l.length ≤ F → Nd.cnts (madeL g d c l acc).1 + (madeL g d c l acc).2.length ≤ Nd.cnts acc + l.length
  | 0, l, acc, hl => Nat.le_refl _
  | c + 1, l, acc, hl => by
    unfold madeL
    split
    · rename_i q
      have := (hs l).length_le
      have a := madeL_cnt (d := d) hs hg c (g l).2 (acc ++ [(g l).1]) (by omega)
      have b := hg l q.1 hl
      rw [cnts_app, cnts_cons, cnts_nil] at a
      omega
    · exact Nat.le_refl _
theorem madeF_cnt (f : Nat) : ∀ (l : List Tr) (d : Nat), l ≠ [] → l.length ≤ f → (madeF f l d).1.cnt + (madeF f l d).2.length ≤ l.length := by
  induction f with
  | zero => intro l d h0 hl; exact absurd (List.length_eq_zero_iff.1 (by omega)) h0
  | succ f ih =>
    intro l d h0 hl
    cases l with
    | nil => exact absurd rfl h0
    | cons x l =>
      rw [madeF_cons]
      have := madeL_cnt (d := d) (F := f) (fun l => madeF_suf f l (d + 1)) (fun l a b => ih l (d + 1) a b) (lowB x.c 3) l [] (by simpa using hl)
      rw [cnts_nil] at this
      simp only [cnt_mk, List.length_cons]
      omega
theorem madeTop_wf {l : List Tr} (h : trOk l) : (madeTop l).wf := madeF_wf 301 _ 0 fun x hx => h x (List.mem_of_mem_take hx)
theorem madeTop_cnt (l : List Tr) : (madeTop l).cnt ≤ 300 := by
  unfold madeTop
  have h3 : (l.take 300).length ≤ 300 := by rw [List.length_take]; omega
  by_cases h0 : l.take 300 = []
  · rw [h0, madeF_nil]
    show skipN.cnt ≤ 300
    unfold skipN
    rw [cnt_mk, cnts_nil]; omega
  · have := madeF_cnt 301 (l.take 300) 0 h0 (by omega)
    omega
end
end Go.Proofs.YthpgepillaeldaaDoor.Zz
/- The law of copies: its walk. -/
namespace Go.Proofs.YthpgepillaeldaaDoor.Zz
noncomputable section
set_option linter.unusedVariables false
set_option linter.unusedSimpArgs false
set_option maxRecDepth 20000
def p5n : Plan := ⟨⟨[], [(3, 1)], [], [], [], []⟩, [(2, [0, 3, 1, 2, 4, 5, 6, 7])], [], false⟩
/-- cupel/cupellaw10.AstCopies (2 parameters, 0 captured) -/
def s5n : Stm :=
  .seq (.ops [⟨.mov (.c (.bool false)), (some 4), none, true⟩])
  (.seq (.ops [⟨.mov (.t 0), (some 9), none, true⟩,
     ⟨.qcall (.f 15) [(.t 9)], (some 10), none, false⟩,
     ⟨.mov (.t 1), (some 11), none, true⟩,
     ⟨.qcall (.f 15) [(.t 11)], (some 12), none, false⟩,
     ⟨.alloc [(.int .i64 0), (.int .i64 0), (.str []), (.int .i64 0), .nilsl], (some 5), none, false⟩,
     ⟨.alloc [(.int .i64 0), (.int .i64 0), (.str []), (.int .i64 0), .nilsl], (some 6), none, false⟩,
     ⟨.store 5 (.t 5) (.t 10), none, none, false⟩,
     ⟨.store 5 (.t 6) (.t 12), none, none, false⟩])
  (.seq (.opsD [⟨.load (some 5) (.t 5), (some 13), none, false⟩,
     ⟨.load (some 5) (.t 6), (some 16), none, false⟩,
     ⟨.qcall (.f 17) [(.t 13)], (some 14), none, false⟩,
     ⟨.qcall (.f 16) [(.t 14)], (some 15), none, false⟩,
     ⟨.qcall (.f 17) [(.t 16)], (some 17), none, false⟩,
     ⟨.qcall (.f 16) [(.t 17)], (some 18), none, false⟩,
     ⟨.bin .eql (.t 15) (.t 18), (some 19), none, true⟩,
     ⟨.mov (.t 19), (some 7), none, true⟩])
  (.seq (.ops [⟨.load (some 5) (.t 5), (some 20), none, false⟩,
     ⟨.call (.f 18) [(.t 20)], (some 21), none, false⟩,
     ⟨.alloc [(.int .i64 0), (.int .i64 0), (.str []), (.int .i64 0), .nilsl], (some 8), none, false⟩,
     ⟨.store 5 (.t 8) (.t 21), none, none, false⟩])
  (.seq (.seq (.ops [⟨.qcall (.f 12) [], (some 22), none, false⟩,
      ⟨.un .not (.t 22), (some 23), none, true⟩,
      ⟨.mov (.t 23), (some 24), none, true⟩,
      ⟨.load (some 5) (.t 5), (some 25), (some (24, false)), false⟩,
      ⟨.load (some 5) (.t 6), (some 26), (some (24, false)), false⟩,
      ⟨.qcall (.f 19) [(.t 25), (.t 26)], (some 27), (some (24, false)), false⟩,
      ⟨.mov (.t 7), (some 28), (some (24, false)), true⟩,
      ⟨.eql .bool true (.t 27) (.t 28), (some 29), (some (24, false)), true⟩,
      ⟨.pick (.t 24) (.c (.bool true)) (.t 29), (some 30), none, true⟩,
      ⟨.mov (.t 30), (some 31), none, true⟩,
      ⟨.load (some 5) (.t 5), (some 32), (some (31, false)), false⟩,
      ⟨.load (some 5) (.t 8), (some 33), (some (31, false)), false⟩,
      ⟨.qcall (.f 19) [(.t 32), (.t 33)], (some 34), (some (31, false)), false⟩,
      ⟨.un .not (.t 34), (some 35), (some (31, false)), true⟩,
      ⟨.pick (.t 31) (.c (.bool true)) (.t 35), (some 36), none, true⟩])
   (.cond (.t 36)
    (.seq (.ops [⟨.mov (.c (.bool false)), (some 4), none, true⟩])
     (.ret))
    (.skip)))
  (.seq (.seq (.ops [⟨.fieldAddr 4 (.t 8), (some 37), none, true⟩,
      ⟨.load none (.t 37), (some 38), none, false⟩,
      ⟨.len .sl (.t 38), (some 39), none, false⟩,
      ⟨.bin .gtr (.t 39) (.c (.int .i64 0)), (some 40), none, true⟩])
   (.cond (.t 40)
    (.seq (.ops [⟨.fieldAddr 4 (.t 8), (some 41), none, true⟩,
        ⟨.load none (.t 41), (some 42), none, false⟩,
        ⟨.indexAddrS 5 (.t 42) (.c (.int .i64 0)), (some 43), none, false⟩,
        ⟨.fieldAddr 2 (.t 43), (some 44), none, true⟩,
        ⟨.load none (.t 44), (some 45), none, false⟩,
        ⟨.bin .add (.t 45) (.c (.str [120])), (some 46), none, true⟩,
        ⟨.indexAddrS 5 (.t 42) (.c (.int .i64 0)), (some 47), none, false⟩,
        ⟨.fieldAddr 2 (.t 47), (some 48), none, true⟩,
        ⟨.store 1 (.t 48) (.t 46), none, none, false⟩])
     (.seq (.ops [⟨.load (some 5) (.t 5), (some 49), none, false⟩,
        ⟨.load (some 5) (.t 8), (some 50), none, false⟩,
        ⟨.qcall (.f 19) [(.t 49), (.t 50)], (some 51), none, false⟩,
        ⟨.un .not (.t 51), (some 52), none, true⟩,
        ⟨.mov (.t 52), (some 4), none, true⟩])
     (.ret)))
    (.skip)))
  (.seq (.ops [⟨.mov (.c (.bool true)), (some 4), none, true⟩])
  (.ret)))))))
theorem st5n : stmOf Tryd.prog 5 p5n = some (s5n, [.tmp 4], 53) := by kernel_rfl

def tb18n : Tab := tb12n.addW 18 c18n c18n_mono
theorem tb18n_q : tb18n.q = tb12n.q := rfl
theorem tb18n_a : tb18n.a = tb12n.a := rfl
theorem tb18n_c (g : FuncId) (args : List D) (h : AHeap) (K E : D → AHeap → Prop) : tb18n.c g args h K E = if g = 18 then c18n args h K else tb12n.c g args h K E := rfl
theorem tb18n_ok : tb18n.ok Tryd.prog := Tab.addW_ok tb12n_ok c18n_ok
theorem tb18n_e : type_of% (And.intro (And.intro @tb18n_q (And.intro @tb18n_a @tb18n_c)) @tb12n_e) := (And.intro (And.intro @tb18n_q (And.intro @tb18n_a @tb18n_c)) @tb12n_e)

def q15n : List D → Option D
  | [.sl ds] => match decTs ds with
    | some l => some (.agg (madeTop l).enc)
    | none => none
  | _ => none
theorem q15n_ok (args : List D) (d : D) (h : q15n args = some d) : PCall Tryd.prog 15 args d := by
  unfold q15n at h
  split at h
  · split at h
    · rename_i e
      cases h
      rw [decTs_some e]
      exact madeTop_c _
    · cases h
  · cases h
theorem q15n_eq (l : List Tr) : q15n [.sl (encTs l)] = some (.agg (madeTop l).enc) := by simp only [q15n, decTs_enc]
def tb15n : Tab := tb18n.addQ 15 q15n
theorem tb15n_q (g : FuncId) (args : List D) : tb15n.q g args = if g = 15 then q15n args else tb18n.q g args := rfl
theorem tb15n_a : tb15n.a = tb18n.a := rfl
theorem tb15n_c : tb15n.c = tb18n.c := rfl
theorem tb15n_ok : tb15n.ok Tryd.prog := Tab.addQ_ok tb18n_ok q15n_ok
theorem tb15n_e : type_of% (And.intro (And.intro @tb15n_q (And.intro @tb15n_a @tb15n_c)) @tb18n_e) := (And.intro (And.intro @tb15n_q (And.intro @tb15n_a @tb15n_c)) @tb18n_e)

def q17n := qN (fun n => decide (n.cnt < 1000000000)) fun n => .agg n.enc
theorem q17n_ok (args : List D) (d : D) (h : q17n args = some d) : PCall Tryd.prog 17 args d := qN_ok (fun n h => ref_c n (by simpa using h)) args d h
def tb17n : Tab := tb15n.addQ 17 q17n
theorem tb17n_q (g : FuncId) (args : List D) : tb17n.q g args = if g = 17 then q17n args else tb15n.q g args := rfl
theorem tb17n_a : tb17n.a = tb15n.a := rfl
theorem tb17n_c : tb17n.c = tb15n.c := rfl
theorem tb17n_ok : tb17n.ok Tryd.prog := Tab.addQ_ok tb15n_ok q17n_ok
theorem tb17n_e : type_of% (And.intro (And.intro @tb17n_q (And.intro @tb17n_a @tb17n_c)) @tb15n_e) := (And.intro (And.intro @tb17n_q (And.intro @tb17n_a @tb17n_c)) @tb15n_e)

def q16n := qN (fun n => decide (n.cnt < 1000000000) && qLen n) fun n => .str (encF n)
theorem q16n_ok (args : List D) (d : D) (h : q16n args = some d) : PCall Tryd.prog 16 args d := qN_ok (fun n h => by
  simp only [Bool.and_eq_true, decide_eq_true_eq] at h
  exact bytesN_c n h.1 h.2) args d h
def tb16n : Tab := tb17n.addQ 16 q16n
theorem tb16n_q (g : FuncId) (args : List D) : tb16n.q g args = if g = 16 then q16n args else tb17n.q g args := rfl
theorem tb16n_a : tb16n.a = tb17n.a := rfl
theorem tb16n_c : tb16n.c = tb17n.c := rfl
theorem tb16n_ok : tb16n.ok Tryd.prog := Tab.addQ_ok tb17n_ok q16n_ok
theorem tb16n_e : type_of% (And.intro (And.intro @tb16n_q (And.intro @tb16n_a @tb16n_c)) @tb17n_e) := (And.intro (And.intro @tb16n_q (And.intro @tb16n_a @tb16n_c)) @tb17n_e)

theorem q19n_eq {n m : Nd} (h : n.cnt < 9223372036854775807) : q19n [.agg n.enc, .agg m.enc] = some (.bool (sameN n m)) := by
  simp only [q19n, qSame, decN_enc]; rw [if_pos h]
theorem q12n_eq : q12n [] = some (.bool true) := by simp only [q12n, if_true]
theorem astCopies_c (a b : List Tr) (ha : trOk a) (hb : trOk b) : PCall Tryd.prog 5 [.sl (encTs a), .sl (encTs b)] (.bool true) := by
  refine PCall.run tb16n_ok st5n (by simp) fun E => ?_
  have wx := madeTop_wf ha
  have wy := madeTop_wf hb
  have nx := madeTop_cnt a
  have ny := madeTop_cnt b
  have ea := q15n_eq a
  have eb := q15n_eq b
  generalize madeTop a = x at *
  generalize madeTop b = y at *
  have lx := encF_len x wx
  have ly := encF_len y wy
  have r1 : q17n [.agg x.enc] = some (.agg x.enc) := qN_eq (by simp; omega)
  have r2 : q17n [.agg y.enc] = some (.agg y.enc) := qN_eq (by simp; omega)
  have b1 : q16n [.agg x.enc] = some (.str (encF x)) := qN_eq (by simp [qLen]; omega)
  have b2 : q16n [.agg y.enc] = some (.str (encF y)) := qN_eq (by simp [qLen]; omega)
  have s1n : q19n [.agg x.enc, .agg y.enc] = some (.bool (sameN x y)) := q19n_eq (by omega)
  have s2n : ∀ z : Nd, q19n [.agg x.enc, .agg z.enc] = some (.bool (sameN x z)) := fun z => q19n_eq (by omega)
  have hsame : (encF x == encF y) = sameN x y := by
    rw [Bool.eq_iff_iff, sameN_iff, beq_iff_eq]
    constructor
    · intro e
      exact (encF_inj x wx y wy [] [] (by rw [e])).1
    · intro e; rw [e]
  have hsym : (sameN x y != sameN x y) = false := by simp
  have c0n : ∀ (h : AHeap) (K : D → AHeap → Prop), (∀ r h', (x.kids ≠ [] → h.f r = none ∧ h'.f r = some (.row 5 (x.kids.length + 2) (Nd.encs x.kids) false)) → (∀ j, h.f j ≠ none → h'.f j = h.f j) → K (.agg (encO x r)) h') → c18n [.agg x.enc] h K := fun h K k => ⟨x, rfl, by omega, .inr k⟩
  clear ha hb
  have s3n := s2n x
  rw [sameN_iff.2 rfl] at s3n
  have hdif : ∀ z : Nd, x ≠ z → sameN x z = false := fun z hz => by
    cases e : sameN x z with
    | false => rfl
    | true => exact absurd (sameN_iff.1 e) hz
  generalize sameN x y = sm at *
  generalize encF x = fx at *
  generalize encF y = fy at *
  have px := part_enc x
  have py := part_enc y
  obtain ⟨k, t, s, n, l⟩ := x
  obtain ⟨k', t', s', n', l'⟩ := y
  simp only [enc_mk] at ea eb r1 r2 b1 b2 s1n s3n px py c0n
  simp (config := {maxSteps := 1000000}) only [s5n, ea, eb, tb41n_e, tbLp_e, tbRt_e, tb16n_e, i_callNe, Int.natCast_nonneg, Nat.le_refl, Int.le_refl, List.take_succ_cons, List.take_zero, decide_true, decide_false, Bool.and_false, Bool.false_and, zz, zzN, zzF, zzD, zzM, cond_true, cond_false, ↓reduceIte, Nat.reduceEqDiff, Nat.reduceBEq, Int.reduceLT, Int.reduceLE, Int.reduceToNat, Int.reduceEq, Int.reduceAdd, Int.reduceSub, Int.reduceMul, Int.reduceNeg, Nat.reduceMul, Nat.reduceSub, Nat.reduceLeDiff, Nat.reduceLT, Int.reduceGT, Int.reduceGE, Int.reduceBEq, Int.reduceBNe, reduceCtorEq, Nat.reduceAdd]
  intro i5 i6 n1 n2
  simp (config := {maxSteps := 1000000}) only [n1, n2, r1, r2, b1, b2, hsame, tb41n_e, tbLp_e, tbRt_e, tb16n_e, i_callNe, Int.natCast_nonneg, Nat.le_refl, Int.le_refl, List.take_succ_cons, List.take_zero, decide_true, decide_false, Bool.and_false, Bool.false_and, zz, zzN, zzF, zzD, zzM, cond_true, cond_false, ↓reduceIte, Nat.reduceEqDiff, Nat.reduceBEq, Int.reduceLT, Int.reduceLE, Int.reduceToNat, Int.reduceEq, Int.reduceAdd, Int.reduceSub, Int.reduceMul, Int.reduceNeg, Nat.reduceMul, Nat.reduceSub, Nat.reduceLeDiff, Nat.reduceLT, Int.reduceGT, Int.reduceGE, Int.reduceBEq, Int.reduceBNe, reduceCtorEq, Nat.reduceAdd]
  refine c0n _ _ fun r h' hr hf => ?_
  have v5 := hf i5 (by simp only [AHeap.set_f, n1, n2, ↓reduceIte]; simp)
  have v6 := hf i6 (by simp only [AHeap.set_f, n1, n2, ↓reduceIte]; simp)
  simp only [AHeap.set_f, n1, n2, ↓reduceIte] at v5 v6
  cases l with
  | nil =>
    simp only [encO, List.length_nil, ownD_zero]
    clear hr hf
    simp (config := {maxSteps := 1000000}) only [v5, v6, q12n_eq, tb41n_e, tbLp_e, tbRt_e, tb16n_e, i_callNe, Int.natCast_nonneg, Nat.le_refl, Int.le_refl, List.take_succ_cons, List.take_zero, decide_true, decide_false, Bool.and_false, Bool.false_and, zz, zzN, zzF, zzD, zzM, cond_true, cond_false, ↓reduceIte, Nat.reduceEqDiff, Nat.reduceBEq, Int.reduceLT, Int.reduceLE, Int.reduceToNat, Int.reduceEq, Int.reduceAdd, Int.reduceSub, Int.reduceMul, Int.reduceNeg, Nat.reduceMul, Nat.reduceSub, Nat.reduceLeDiff, Nat.reduceLT, Int.reduceGT, Int.reduceGE, Int.reduceBEq, Int.reduceBNe, reduceCtorEq, Nat.reduceAdd]
    intro i8 k8
    have m1 : ¬ i8 = i5 := fun e => by subst e; rw [v5] at k8; cases k8
    have m2 : ¬ i8 = i6 := fun e => by subst e; rw [v6] at k8; cases k8
    have m1' : ¬ i5 = i8 := fun e => m1 e.symm
    have m2' : ¬ i6 = i8 := fun e => m2 e.symm
    rw [encs_nil] at *
    simp (config := {maxSteps := 1000000}) only [m1, m2, m1', m2', n1, n2, v5, v6, s1n, s3n, hsym, q12n_eq, tb41n_e, tbLp_e, tbRt_e, tb16n_e, i_callNe, Int.natCast_nonneg, Nat.le_refl, Int.le_refl, List.take_succ_cons, List.take_zero, decide_true, decide_false, Bool.and_false, Bool.false_and, zz, zzN, zzF, zzD, zzM, cond_true, cond_false, ↓reduceIte, Nat.reduceEqDiff, Nat.reduceBEq, Int.reduceLT, Int.reduceLE, Int.reduceToNat, Int.reduceEq, Int.reduceAdd, Int.reduceSub, Int.reduceMul, Int.reduceNeg, Nat.reduceMul, Nat.reduceSub, Nat.reduceLeDiff, Nat.reduceLT, Int.reduceGT, Int.reduceGE, Int.reduceBEq, Int.reduceBNe, reduceCtorEq, Nat.reduceAdd]
  | cons z tl =>
    obtain ⟨k9, v9⟩ := hr (by simp [Nd.kids])
    simp only [Nd.kids] at v9
    have p5n : ¬ r = i5 := fun e => by subst e; simp only [AHeap.set_f, n1, n2, ↓reduceIte] at k9; cases k9
    have p6n : ¬ r = i6 := fun e => by subst e; simp only [AHeap.set_f, n1, n2, ↓reduceIte] at k9; cases k9
    have p5n' : ¬ i5 = r := fun e => p5n e.symm
    have p6n' : ¬ i6 = r := fun e => p6n e.symm
    clear hr hf k9
    simp only [encO, ownD_pos (show (z :: tl).length ≠ 0 by simp)]
    simp (config := {maxSteps := 1000000}) only [v5, v6, v9, q12n_eq, tb41n_e, tbLp_e, tbRt_e, tb16n_e, i_callNe, Int.natCast_nonneg, Nat.le_refl, Int.le_refl, List.take_succ_cons, List.take_zero, decide_true, decide_false, Bool.and_false, Bool.false_and, zz, zzN, zzF, zzD, zzM, cond_true, cond_false, ↓reduceIte, Nat.reduceEqDiff, Nat.reduceBEq, Int.reduceLT, Int.reduceLE, Int.reduceToNat, Int.reduceEq, Int.reduceAdd, Int.reduceSub, Int.reduceMul, Int.reduceNeg, Nat.reduceMul, Nat.reduceSub, Nat.reduceLeDiff, Nat.reduceLT, Int.reduceGT, Int.reduceGE, Int.reduceBEq, Int.reduceBNe, reduceCtorEq, Nat.reduceAdd]
    intro i8 k8
    have m1 : ¬ i8 = i5 := fun e => by subst e; rw [v5] at k8; cases k8
    have m2 : ¬ i8 = i6 := fun e => by subst e; rw [v6] at k8; cases k8
    have m3 : ¬ i8 = r := fun e => by subst e; rw [v9] at k8; cases k8
    have m1' : ¬ i5 = i8 := fun e => m1 e.symm
    have m2' : ¬ i6 = i8 := fun e => m2 e.symm
    have m3' : ¬ r = i8 := fun e => m3 e.symm
    have tk : (Nd.encs (z :: tl)).take (tl.length + 1) = Nd.encs (z :: tl) := List.take_of_length_le (by rw [len_encs]; simp)
    have g : (((tl.length + 1 : Nat) : Int) > 0) = True := eq_true (by omega)
    rw [wf_mk, wfs_cons] at wx
    have wz := wx.2.2.2.2.2.1
    obtain ⟨zk, zt, zs, zm, zl⟩ := z
    rw [wf_mk] at wz
    have hz : sameN (.mk k t s n (.mk zk zt zs zm zl :: tl)) (.mk k t s n (.mk zk zt (zs ++ [120]) zm zl :: tl)) = false := hdif _ fun e => by
      simp only [Nd.mk.injEq, List.cons.injEq, true_and, and_true] at e
      have := congrArg List.length e
      simp at this
    have s4n := s2n (.mk k t s n (.mk zk zt (zs ++ [120]) zm zl :: tl))
    rw [hz] at s4n
    simp only [encs_cons, enc_mk] at *
    simp (config := {maxSteps := 1000000}) only [m1, m2, m3, m1', m2', m3', p5n, p6n, p5n', p6n', n1, n2, v5, v6, v9, tk, len_encs, s1n, s3n, hsym, q12n_eq, tb41n_e, tbLp_e, tbRt_e, tb16n_e, i_callNe, Int.natCast_nonneg, Nat.le_refl, Int.le_refl, List.take_succ_cons, List.take_zero, decide_true, decide_false, Bool.and_false, Bool.false_and, zz, zzN, zzF, zzD, zzM, cond_true, cond_false, ↓reduceIte, Nat.reduceEqDiff, Nat.reduceBEq, Int.reduceLT, Int.reduceLE, Int.reduceToNat, Int.reduceEq, Int.reduceAdd, Int.reduceSub, Int.reduceMul, Int.reduceNeg, Nat.reduceMul, Nat.reduceSub, Nat.reduceLeDiff, Nat.reduceLT, Int.reduceGT, Int.reduceGE, Int.reduceBEq, Int.reduceBNe, reduceCtorEq, Nat.reduceAdd]
    intro _
    rw [if_pos (by omega)]
    refine ⟨by omega, by omega, by omega, ?_⟩
    have tk2 : (Nd.encs tl).take tl.length = Nd.encs tl := List.take_of_length_le (by rw [len_encs]; omega)
    simp (config := {maxSteps := 1000000}) only [tk2, s4n, tb41n_e, tbLp_e, tbRt_e, tb16n_e, i_callNe, Int.natCast_nonneg, Nat.le_refl, Int.le_refl, List.take_succ_cons, List.take_zero, decide_true, decide_false, Bool.and_false, Bool.false_and, zz, zzN, zzF, zzD, zzM, cond_true, cond_false, ↓reduceIte, Nat.reduceEqDiff, Nat.reduceBEq, Int.reduceLT, Int.reduceLE, Int.reduceToNat, Int.reduceEq, Int.reduceAdd, Int.reduceSub, Int.reduceMul, Int.reduceNeg, Nat.reduceMul, Nat.reduceSub, Nat.reduceLeDiff, Nat.reduceLT, Int.reduceGT, Int.reduceGE, Int.reduceBEq, Int.reduceBNe, reduceCtorEq, Nat.reduceAdd]
end
end Go.Proofs.YthpgepillaeldaaDoor.Zz
/- Contracts: trees of the document, gone over and changed. -/
namespace Go.Proofs.YthpgepillaeldaaDoor.Zz
noncomputable section
set_option linter.unusedVariables false
set_option linter.unusedSimpArgs false
set_option maxRecDepth 20000
def p23n : Plan := ⟨⟨[], [], [(5, 5)], [], [], []⟩, [(5, [0, 1, 2, 3, 4, 5, 6, 7, 8, 9, 10, 11])], [], false⟩
/-- cupel/cupellaw10.Back (1 parameters, 0 captured) -/
def s23n : Stm :=
  .seq (.ops [⟨.box (.t 0), (some 1), none, false⟩,
     ⟨.alloc [(.int .i64 0), (.int .i64 0), (.str []), (.int .i64 0), .nilsl], (some 2), none, false⟩])
  (.seq (.ops [⟨.fieldAddr 0 (.t 1), (some 5), none, true⟩,
     ⟨.load none (.t 5), (some 6), none, false⟩,
     ⟨.fieldAddr 1 (.t 1), (some 7), none, true⟩,
     ⟨.load none (.t 7), (some 8), none, false⟩,
     ⟨.fieldAddr 2 (.t 1), (some 9), none, true⟩,
     ⟨.load none (.t 9), (some 10), none, false⟩,
     ⟨.fieldAddr 3 (.t 1), (some 11), none, true⟩,
     ⟨.load none (.t 11), (some 12), none, false⟩,
     ⟨.build [(.int .i64 0), (.int .i64 0), (.str []), (.int .i64 0), .nilsl] [(0, 1, (.t 6)), (1, 1, (.t 8)), (2, 1, (.t 10)), (3, 1, (.t 12))], (some 13), none, true⟩,
     ⟨.alloc [(.int .i64 0), (.int .i64 0), (.str []), (.int .i64 0), .nilsl], (some 3), none, false⟩,
     ⟨.store 5 (.t 3) (.t 13), none, none, false⟩])
  (.seq (.seq (.ops [⟨.mov (.c (.int .i64 0)), (some 4), none, true⟩])
   (.block 0 (.loop (.seq (.seq (.ops [⟨.mov (.t 4), (some 14), none, true⟩,
         ⟨.fieldAddr 4 (.t 1), (some 15), none, true⟩,
         ⟨.load none (.t 15), (some 16), none, false⟩,
         ⟨.len .sl (.t 16), (some 17), none, false⟩,
         ⟨.bin .lss (.t 14) (.t 17), (some 18), none, true⟩])
      (.cond (.t 18)
       (.skip)
       (.exit 0)))
     (.seq (.block 1 (.opsD [⟨.fieldAddr 4 (.t 3), (some 21), none, true⟩,
         ⟨.load none (.t 21), (some 22), none, false⟩,
         ⟨.fieldAddr 4 (.t 1), (some 23), none, true⟩,
         ⟨.load none (.t 23), (some 24), none, false⟩,
         ⟨.mov (.t 4), (some 25), none, true⟩,
         ⟨.indexAddrS 5 (.t 24) (.t 25), (some 26), none, false⟩,
         ⟨.load (some 5) (.t 26), (some 27), none, false⟩,
         ⟨.qcall (.f 23) [(.t 27)], (some 28), none, false⟩,
         ⟨.buildSlice 5 [(.int .i64 0), (.int .i64 0), (.str []), (.int .i64 0), .nilsl] 1 [(0, (.t 28))] false, (some 29), none, true⟩,
         ⟨.append 5 64 false (.t 22) (.t 29), (some 30), none, false⟩,
         ⟨.fieldAddr 4 (.t 3), (some 31), none, true⟩,
         ⟨.store 1 (.t 31) (.t 30), none, none, false⟩]))
     (.ops [⟨.mov (.t 4), (some 19), none, true⟩,
       ⟨.bin .add (.t 19) (.c (.int .i64 1)), (some 20), none, true⟩,
       ⟨.mov (.t 20), (some 4), none, true⟩]))))))
  (.seq (.ops [⟨.load (some 5) (.t 3), (some 32), none, false⟩,
     ⟨.store 5 (.t 2) (.t 32), none, none, false⟩])
  (.ret))))
theorem st23n : stmOf Tryd.prog 23 p23n = some (s23n, [.cell 2 (some 5)], 33) := by kernel_rfl

def p48n : Plan := ⟨⟨[], [], [], [], [], []⟩, [], [], false⟩
/-- cupel/cupelref10.Count (1 parameters, 0 captured) -/
def s48n : Stm :=
  .seq (.ops [⟨.box (.t 0), (some 1), none, false⟩,
     ⟨.mov (.c (.int .i64 0)), (some 2), none, true⟩])
  (.seq (.ops [⟨.mov (.c (.int .i64 1)), (some 3), none, true⟩])
  (.seq (.seq (.ops [⟨.mov (.c (.int .i64 0)), (some 4), none, true⟩])
   (.block 0 (.loop (.seq (.seq (.ops [⟨.mov (.t 4), (some 5), none, true⟩,
         ⟨.fieldAddr 4 (.t 1), (some 6), none, true⟩,
         ⟨.load none (.t 6), (some 7), none, false⟩,
         ⟨.len .sl (.t 7), (some 8), none, false⟩,
         ⟨.bin .lss (.t 5) (.t 8), (some 9), none, true⟩])
      (.cond (.t 9)
       (.skip)
       (.exit 0)))
     (.seq (.block 1 (.ops [⟨.mov (.t 3), (some 12), none, true⟩,
         ⟨.fieldAddr 4 (.t 1), (some 13), none, true⟩,
         ⟨.load none (.t 13), (some 14), none, false⟩,
         ⟨.mov (.t 4), (some 15), none, true⟩,
         ⟨.indexAddrS 5 (.t 14) (.t 15), (some 16), none, false⟩,
         ⟨.load (some 5) (.t 16), (some 17), none, false⟩,
         ⟨.qcall (.f 48) [(.t 17)], (some 18), none, false⟩,
         ⟨.bin .add (.t 12) (.t 18), (some 19), none, true⟩,
         ⟨.mov (.t 19), (some 3), none, true⟩]))
     (.ops [⟨.mov (.t 4), (some 10), none, true⟩,
       ⟨.bin .add (.t 10) (.c (.int .i64 1)), (some 11), none, true⟩,
       ⟨.mov (.t 11), (some 4), none, true⟩]))))))
  (.seq (.ops [⟨.mov (.t 3), (some 20), none, true⟩,
     ⟨.mov (.t 20), (some 2), none, true⟩])
  (.ret))))
theorem st48n : stmOf Tryd.prog 48 p48n = some (s48n, [.tmp 2], 21) := by kernel_rfl

def p20n : Plan := ⟨⟨[(1, 1)], [], [], [], [], []⟩, [], [], false⟩
/-- cupel/cupelref10.List (1 parameters, 0 captured) -/
def s20n : Stm :=
  .seq (.ops [⟨.box (.t 0), (some 1), none, false⟩,
     ⟨.mov (.c .nilsl), (some 2), none, true⟩])
  (.seq (.ops [⟨.load (some 5) (.t 1), (some 5), none, false⟩,
     ⟨.buildSlice 5 [(.int .i64 0), (.int .i64 0), (.str []), (.int .i64 0), .nilsl] 1 [(0, (.t 5))] true, (some 6), none, false⟩,
     ⟨.mov (.t 6), (some 3), none, true⟩])
  (.seq (.seq (.ops [⟨.mov (.c (.int .i64 0)), (some 4), none, true⟩])
   (.block 0 (.loop (.seq (.seq (.ops [⟨.mov (.t 4), (some 7), none, true⟩,
         ⟨.fieldAddr 4 (.t 1), (some 8), none, true⟩,
         ⟨.load none (.t 8), (some 9), none, false⟩,
         ⟨.len .sl (.t 9), (some 10), none, false⟩,
         ⟨.bin .lss (.t 7) (.t 10), (some 11), none, true⟩])
      (.cond (.t 11)
       (.skip)
       (.exit 0)))
     (.seq (.block 1 (.ops [⟨.mov (.t 3), (some 14), none, true⟩,
         ⟨.fieldAddr 4 (.t 1), (some 15), none, true⟩,
         ⟨.load none (.t 15), (some 16), none, false⟩,
         ⟨.mov (.t 4), (some 17), none, true⟩,
         ⟨.indexAddrS 5 (.t 16) (.t 17), (some 18), none, false⟩,
         ⟨.load (some 5) (.t 18), (some 19), none, false⟩,
         ⟨.qcall (.f 20) [(.t 19)], (some 20), none, false⟩,
         ⟨.append 5 64 false (.t 14) (.t 20), (some 21), none, false⟩,
         ⟨.mov (.t 21), (some 3), none, true⟩]))
     (.ops [⟨.mov (.t 4), (some 12), none, true⟩,
       ⟨.bin .add (.t 12) (.c (.int .i64 1)), (some 13), none, true⟩,
       ⟨.mov (.t 13), (some 4), none, true⟩]))))))
  (.seq (.ops [⟨.mov (.t 3), (some 22), none, true⟩,
     ⟨.mov (.t 22), (some 2), none, true⟩])
  (.ret))))
theorem st20n : stmOf Tryd.prog 20 p20n = some (s20n, [.tmp 2], 23) := by kernel_rfl

set_option maxHeartbeats 1000000 in
theorem back_step (f : Nat) (hf : f < 1000000000) (hT : (Tab.zero.addQ 23 (qN (fun n => decide (n.cnt < f) && qT n) fun n => .agg n.enc)).ok Tryd.prog) (n : Nd) (hn : n.cnt < f + 1) : PCall Tryd.prog 23 [.agg n.enc] (.agg n.enc) := by
  refine PCall.run hT st23n (by simp) fun E => ?_
  have hT_q : ∀ g args, (Tab.zero.addQ 23 (qN (fun n => decide (n.cnt < f) && qT n) fun n => .agg n.enc)).q g args = if g = 23 then qN (fun n => decide (n.cnt < f) && qT n) (fun n => .agg n.enc) args else Tab.zero.q g args := fun g args => rfl
  have hq : ∀ y : Nd, y.cnt < f → qN (fun n => decide (n.cnt < f) && qT n) (fun n => .agg n.enc) [.agg y.enc] = some (.agg y.enc) := fun y hy => qN_eq (by simpa [qT] using hy)
  generalize Tab.zero.addQ 23 (qN (fun n => decide (n.cnt < f) && qT n) fun n => .agg n.enc) = TT at hT_q ⊢
  obtain ⟨k, t, x, m, l⟩ := n
  have hcnt : ∀ y ∈ l, y.cnt < f := fun y hy => by have := cnt_kid (k := k) (t := t) (s := x) (n := m) hy; omega
  have hln : l.length ≤ f := by rw [cnt_mk] at hn; have := cnts_len l; omega
  rw [enc_mk]
  simp (config := {maxSteps := 1000000}) only [s23n, hT_q, i_callNe, Int.natCast_nonneg, Nat.le_refl, Int.le_refl, List.take_succ_cons, List.take_zero, decide_true, decide_false, Bool.and_false, Bool.false_and, zz, zzN, zzF, zzD, zzM, cond_true, cond_false, ↓reduceIte, Nat.reduceEqDiff, Nat.reduceBEq, Int.reduceLT, Int.reduceLE, Int.reduceToNat, Int.reduceEq, Int.reduceAdd, Int.reduceSub, Int.reduceMul, Int.reduceNeg, Nat.reduceMul, Nat.reduceSub, Nat.reduceLeDiff, Nat.reduceLT, Int.reduceGT, Int.reduceGE, Int.reduceBEq, Int.reduceBNe, reduceCtorEq, Nat.reduceAdd]
  intro i1 i2 n1 n2
  simp (config := {maxSteps := 1000000}) only [n1, n2, hT_q, i_callNe, Int.natCast_nonneg, Nat.le_refl, Int.le_refl, List.take_succ_cons, List.take_zero, decide_true, decide_false, Bool.and_false, Bool.false_and, zz, zzN, zzF, zzD, zzM, cond_true, cond_false, ↓reduceIte, Nat.reduceEqDiff, Nat.reduceBEq, Int.reduceLT, Int.reduceLE, Int.reduceToNat, Int.reduceEq, Int.reduceAdd, Int.reduceSub, Int.reduceMul, Int.reduceNeg, Nat.reduceMul, Nat.reduceSub, Nat.reduceLeDiff, Nat.reduceLT, Int.reduceGT, Int.reduceGE, Int.reduceBEq, Int.reduceBNe, reduceCtorEq, Nat.reduceAdd]
  intro i3 m1 m2 m3 m4
  refine run_loop (X := Nat × Nat × AHeap) (fun z => [(1, .ptr i1 1 0), (2, .ptr i2 1 0), (3, .ptr i3 1 0), (4, .int .i64 z.1)]) (fun z => z.2.2) (fun z => l.length - z.1)
    (fun z => z.1 ≤ l.length ∧ z.2.2.f i1 = some (.cells [.int .i64 k, .int .i64 t, .str x, .int .i64 m, .sl (Nd.encs l)]) ∧ z.2.2.f i2 = some (.cells [.int .i64 0, .int .i64 0, .str [], .int .i64 0, .nilsl]) ∧
      z.2.2.f i3 = some (.cells [.int .i64 k, .int .i64 t, .str x, .int .i64 m, ownD z.2.1 z.1]) ∧ (z.1 ≠ 0 → z.2.1 ≠ i1 ∧ z.2.1 ≠ i2 ∧ z.2.1 ≠ i3 ∧ z.2.2.f z.2.1 = some (.row 5 (z.1 + 2) (Nd.encs (l.take z.1)) false))) (0, 0, _) ⟨Nat.zero_le _, ?_, ?_, ?_, fun h => absurd rfl h⟩ ?_ (AHeap.sub_refl _) ?_
  · simp only [AHeap.set_f, n1, n2, m1, m2, m3, m4, ↓reduceIte]
  · simp only [AHeap.set_f, n1, n2, m1, m2, m3, m4, ↓reduceIte]
  · simp only [AHeap.set_f, n1, n2, m1, m2, m3, m4, ↓reduceIte, ownD_zero]
  · simp only [i_callNe, Int.natCast_nonneg, Nat.le_refl, Int.le_refl, List.take_succ_cons, List.take_zero, decide_true, decide_false, Bool.and_false, Bool.false_and, zz, zzN, zzF, zzD, zzM, cond_true, cond_false, ↓reduceIte, Nat.reduceEqDiff, Nat.reduceBEq, Int.reduceLT, Int.reduceLE, Int.reduceToNat, Int.reduceEq, Int.reduceAdd, Int.reduceSub, Int.reduceMul, Int.reduceNeg, Nat.reduceMul, Nat.reduceSub, Nat.reduceLeDiff, Nat.reduceLT, Int.reduceGT, Int.reduceGE, Int.reduceBEq, Int.reduceBNe, reduceCtorEq, Nat.reduceAdd]
  rintro ⟨i, r, hh⟩ Q ⟨j0, v1, v2, v3, vr⟩ hQ
  simp only at j0 v1 v2 v3 vr hQ ⊢
  cases c : decide (i < l.length) with
  | false =>
    have e0 : i = l.length := by simp at c; omega
    have g : ((i : Int) < (l.length : Int)) = False := eq_false (by omega)
    by_cases h0 : l = []
    · subst h0
      simp only [List.length_nil] at e0
      subst e0
      rw [ownD_zero] at v3
      simp (config := {maxSteps := 1000000}) only [g, v1, v2, v3, n1, n2, m1, m2, m3, m4, encs_nil, len_encs, hT_q, i_callNe, Int.natCast_nonneg, Nat.le_refl, Int.le_refl, List.take_succ_cons, List.take_zero, decide_true, decide_false, Bool.and_false, Bool.false_and, zz, zzN, zzF, zzD, zzM, cond_true, cond_false, ↓reduceIte, Nat.reduceEqDiff, Nat.reduceBEq, Int.reduceLT, Int.reduceLE, Int.reduceToNat, Int.reduceEq, Int.reduceAdd, Int.reduceSub, Int.reduceMul, Int.reduceNeg, Nat.reduceMul, Nat.reduceSub, Nat.reduceLeDiff, Nat.reduceLT, Int.reduceGT, Int.reduceGE, Int.reduceBEq, Int.reduceBNe, reduceCtorEq, Nat.reduceAdd]
    · have h1 : l.length ≠ 0 := fun e => h0 (List.length_eq_zero_iff.1 e)
      subst e0
      obtain ⟨r1, r2, r3, v4⟩ := vr h1
      rw [ownD_pos h1] at v3
      have r1' : ¬ i1 = r := fun e => r1 e.symm
      have r2' : ¬ i2 = r := fun e => r2 e.symm
      have r3' : ¬ i3 = r := fun e => r3 e.symm
      rw [List.take_length] at v4
      simp (config := {maxSteps := 1000000}) only [g, v1, v2, v3, v4, n1, n2, m1, m2, m3, m4, r1, r2, r3, r1', r2', r3', len_encs, hT_q, i_callNe, Int.natCast_nonneg, Nat.le_refl, Int.le_refl, List.take_succ_cons, List.take_zero, decide_true, decide_false, Bool.and_false, Bool.false_and, zz, zzN, zzF, zzD, zzM, cond_true, cond_false, ↓reduceIte, Nat.reduceEqDiff, Nat.reduceBEq, Int.reduceLT, Int.reduceLE, Int.reduceToNat, Int.reduceEq, Int.reduceAdd, Int.reduceSub, Int.reduceMul, Int.reduceNeg, Nat.reduceMul, Nat.reduceSub, Nat.reduceLeDiff, Nat.reduceLT, Int.reduceGT, Int.reduceGE, Int.reduceBEq, Int.reduceBNe, reduceCtorEq, Nat.reduceAdd]
      exact fun _ => List.take_of_length_le (by rw [len_encs]; omega)
  | true =>
    have c : i < l.length := by simpa using c
    obtain ⟨y, hy⟩ : ∃ y, l[i]? = some y := ⟨_, List.getElem?_eq_getElem c⟩
    have g : ((i : Int) < (l.length : Int)) = True := eq_true (by omega)
    have hym : y ∈ l := List.mem_of_getElem? hy
    have wi : IntKind.i64.wrap ((i : Int) + 1) = ((i + 1 : Nat) : Int) := wrap_succ (by omega)
    have hp := part_enc y
    have hac : ∀ (K : D → AHeap → Prop) (h : AHeap), askE 5 K h (Nd.encs l) (i : Int) = K (.eptr y.enc 0) h := fun K h => askE_encs hy
    have hqy := hq y (hcnt y hym)
    have htk : Nd.encs (l.take (i + 1)) = Nd.encs (l.take i) ++ [y.enc] := by
      rw [List.take_add_one, hy, encs_snoc]; rfl
    have hy2 : y.enc.length = 5 ∧ y.enc.all cellOk = true := ⟨len_enc y, enc_ok y⟩
    have hxn : (Nd.encs (l.take i)).length = i := by rw [len_encs, List.length_take]; omega
    clear hy hym hq
    obtain ⟨yk, yt, yx, ym, yl⟩ := y
    rw [enc_mk] at *
    simp (config := {maxSteps := 1000000}) only [g, v1, v2, v3, hac, hp, wi, hqy, enc_unnil, len_encs, n1, n2, m1, m2, m3, m4, hT_q, i_callNe, Int.natCast_nonneg, Nat.le_refl, Int.le_refl, List.take_succ_cons, List.take_zero, decide_true, decide_false, Bool.and_false, Bool.false_and, zz, zzN, zzF, zzD, zzM, cond_true, cond_false, ↓reduceIte, Nat.reduceEqDiff, Nat.reduceBEq, Int.reduceLT, Int.reduceLE, Int.reduceToNat, Int.reduceEq, Int.reduceAdd, Int.reduceSub, Int.reduceMul, Int.reduceNeg, Nat.reduceMul, Nat.reduceSub, Nat.reduceLeDiff, Nat.reduceLT, Int.reduceGT, Int.reduceGE, Int.reduceBEq, Int.reduceBNe, reduceCtorEq, Nat.reduceAdd]
    intro _
    refine app_own2 (b := 64) hxn (fun h0 => (vr h0).2.2.2) hy2 (by omega) (by omega) fun r' a1 a2 => ?_
    have a3 : r' ≠ i1 ∧ r' ≠ i2 ∧ r' ≠ i3 := by
      by_cases h0 : i = 0
      · have := a1 h0
        exact ⟨fun e => (by subst e; rw [v1] at this; cases this), fun e => (by subst e; rw [v2] at this; cases this), fun e => (by subst e; rw [v3] at this; cases this)⟩
      · rw [a2 h0]; exact ⟨(vr h0).1, (vr h0).2.1, (vr h0).2.2.1⟩
    obtain ⟨r1, r2, r3⟩ := a3
    have r1' : ¬ i1 = r' := fun e => r1 e.symm
    have r2' : ¬ i2 = r' := fun e => r2 e.symm
    have r3' : ¬ i3 = r' := fun e => r3 e.symm
    simp (config := {maxSteps := 1000000}) only [v1, v2, v3, wi, r1, r2, r3, r1', r2', r3', n1, n2, m1, m2, m3, m4, hT_q, i_callNe, Int.natCast_nonneg, Nat.le_refl, Int.le_refl, List.take_succ_cons, List.take_zero, decide_true, decide_false, Bool.and_false, Bool.false_and, zz, zzN, zzF, zzD, zzM, cond_true, cond_false, ↓reduceIte, Nat.reduceEqDiff, Nat.reduceBEq, Int.reduceLT, Int.reduceLE, Int.reduceToNat, Int.reduceEq, Int.reduceAdd, Int.reduceSub, Int.reduceMul, Int.reduceNeg, Nat.reduceMul, Nat.reduceSub, Nat.reduceLeDiff, Nat.reduceLT, Int.reduceGT, Int.reduceGE, Int.reduceBEq, Int.reduceBNe, reduceCtorEq, Nat.reduceAdd]
    refine hQ (i + 1, r', _) _ _ ⟨c, ?_, ?_, ?_, fun _ => ⟨r1, r2, r3, ?_⟩⟩ (by simp only [i_callNe, Int.natCast_nonneg, Nat.le_refl, Int.le_refl, List.take_succ_cons, List.take_zero, decide_true, decide_false, Bool.and_false, Bool.false_and, zz, zzN, zzF, zzD, zzM, cond_true, cond_false, ↓reduceIte, Nat.reduceEqDiff, Nat.reduceBEq, Int.reduceLT, Int.reduceLE, Int.reduceToNat, Int.reduceEq, Int.reduceAdd, Int.reduceSub, Int.reduceMul, Int.reduceNeg, Nat.reduceMul, Nat.reduceSub, Nat.reduceLeDiff, Nat.reduceLT, Int.reduceGT, Int.reduceGE, Int.reduceBEq, Int.reduceBNe, reduceCtorEq, Nat.reduceAdd]) (AHeap.sub_refl _) (by simp only; omega)
    · simp only [AHeap.set_f, r1', m1, m2, m3, m4, v1, ↓reduceIte]
    · simp only [AHeap.set_f, r2', m1, m2, m3, m4, v2, ↓reduceIte]
    · simp only [AHeap.set_f, r3', m1, m2, m3, m4, v3, ownD_pos (Nat.succ_ne_zero i), ↓reduceIte]
    · simp only [AHeap.set_f, r3, htk, ↓reduceIte]
theorem back_c (n : Nd) (h : n.cnt < 1000000000) : PCall Tryd.prog 23 [.agg n.enc] (.agg n.enc) :=
  byCnt (M := 1000000000) (g := fun n => .agg n.enc) (Tab.zero_ok _) (q := qT) (fun k hk hT n hn _ => back_step k hk hT n hn) 1000000000 (Nat.le_refl _) n h rfl
set_option maxHeartbeats 1000000 in
theorem rcount_step (f : Nat) (hf : f < 1000000000) (hT : (Tab.zero.addQ 48 (qN (fun n => decide (n.cnt < f) && qT n) fun n => .int .i64 n.cnt)).ok Tryd.prog) (n : Nd) (hn : n.cnt < f + 1) : PCall Tryd.prog 48 [.agg n.enc] (.int .i64 n.cnt) := by
  refine PCall.run hT st48n (by simp) fun E => ?_
  have hT_q : ∀ g args, (Tab.zero.addQ 48 (qN (fun n => decide (n.cnt < f) && qT n) fun n => .int .i64 n.cnt)).q g args = if g = 48 then qN (fun n => decide (n.cnt < f) && qT n) (fun n => .int .i64 n.cnt) args else Tab.zero.q g args := fun g args => rfl
  have hq : ∀ y : Nd, y.cnt < f → qN (fun n => decide (n.cnt < f) && qT n) (fun n => .int .i64 n.cnt) [.agg y.enc] = some (.int .i64 y.cnt) := fun y hy => qN_eq (by simpa [qT] using hy)
  generalize Tab.zero.addQ 48 (qN (fun n => decide (n.cnt < f) && qT n) fun n => .int .i64 n.cnt) = TT at hT_q ⊢
  obtain ⟨k, t, x, m, l⟩ := n
  have hcnt : ∀ y ∈ l, y.cnt < f := fun y hy => by have := cnt_kid (k := k) (t := t) (s := x) (n := m) hy; omega
  rw [cnt_mk] at hn ⊢
  have hln := cnts_len l
  rw [enc_mk]
  simp (config := {maxSteps := 1000000}) only [s48n, hT_q, i_callNe, Int.natCast_nonneg, Nat.le_refl, Int.le_refl, List.take_succ_cons, List.take_zero, decide_true, decide_false, Bool.and_false, Bool.false_and, zz, zzN, zzF, zzD, zzM, cond_true, cond_false, ↓reduceIte, Nat.reduceEqDiff, Nat.reduceBEq, Int.reduceLT, Int.reduceLE, Int.reduceToNat, Int.reduceEq, Int.reduceAdd, Int.reduceSub, Int.reduceMul, Int.reduceNeg, Nat.reduceMul, Nat.reduceSub, Nat.reduceLeDiff, Nat.reduceLT, Int.reduceGT, Int.reduceGE, Int.reduceBEq, Int.reduceBNe, reduceCtorEq, Nat.reduceAdd]
  intro i1
  refine run_loop (X := Nat) (fun z => [(1, .ptr i1 1 0), (3, .int .i64 (1 + Nd.cnts (l.take z) : Nat)), (4, .int .i64 z)])
    (fun z => AHeap.emp.set i1 (.cells [.int .i64 k, .int .i64 t, .str x, .int .i64 m, .sl (Nd.encs l)])) (fun z => l.length - z) (fun z => z ≤ l.length) 0 (Nat.zero_le _) ?_ (AHeap.sub_refl _) ?_
  · simp only [List.take_zero, cnts_nil, i_callNe, Int.natCast_nonneg, Nat.le_refl, Int.le_refl, List.take_succ_cons, List.take_zero, decide_true, decide_false, Bool.and_false, Bool.false_and, zz, zzN, zzF, zzD, zzM, cond_true, cond_false, ↓reduceIte, Nat.reduceEqDiff, Nat.reduceBEq, Int.reduceLT, Int.reduceLE, Int.reduceToNat, Int.reduceEq, Int.reduceAdd, Int.reduceSub, Int.reduceMul, Int.reduceNeg, Nat.reduceMul, Nat.reduceSub, Nat.reduceLeDiff, Nat.reduceLT, Int.reduceGT, Int.reduceGE, Int.reduceBEq, Int.reduceBNe, reduceCtorEq, Nat.reduceAdd]
  intro i Q j0 hQ
  cases c : decide (i < l.length) with
  | false =>
    have e0 : i = l.length := by simp at c; omega
    have g : ((i : Int) < (l.length : Int)) = False := eq_false (by omega)
    simp (config := {maxSteps := 1000000}) only [g, len_encs, hT_q, i_callNe, Int.natCast_nonneg, Nat.le_refl, Int.le_refl, List.take_succ_cons, List.take_zero, decide_true, decide_false, Bool.and_false, Bool.false_and, zz, zzN, zzF, zzD, zzM, cond_true, cond_false, ↓reduceIte, Nat.reduceEqDiff, Nat.reduceBEq, Int.reduceLT, Int.reduceLE, Int.reduceToNat, Int.reduceEq, Int.reduceAdd, Int.reduceSub, Int.reduceMul, Int.reduceNeg, Nat.reduceMul, Nat.reduceSub, Nat.reduceLeDiff, Nat.reduceLT, Int.reduceGT, Int.reduceGE, Int.reduceBEq, Int.reduceBNe, reduceCtorEq, Nat.reduceAdd]
    rw [e0, List.take_length]
    exact fun _ => .inl rfl
  | true =>
    have c : i < l.length := by simpa using c
    obtain ⟨y, hy⟩ : ∃ y, l[i]? = some y := ⟨_, List.getElem?_eq_getElem c⟩
    have g : ((i : Int) < (l.length : Int)) = True := eq_true (by omega)
    have hym : y ∈ l := List.mem_of_getElem? hy
    have wi : IntKind.i64.wrap ((i : Int) + 1) = ((i + 1 : Nat) : Int) := wrap_succ (by omega)
    have hp := part_enc y
    have hac : ∀ (K : D → AHeap → Prop) (h : AHeap), askE 5 K h (Nd.encs l) (i : Int) = K (.eptr y.enc 0) h := fun K h => askE_encs hy
    have hqy := hq y (hcnt y hym)
    have ht := cnts_take hy
    have hle := cnts_le l (i + 1)
    have ws : IntKind.i64.wrap (((1 + Nd.cnts (l.take i) : Nat) : Int) + (y.cnt : Int)) = ((1 + Nd.cnts (l.take (i + 1)) : Nat) : Int) := by
      rw [wrap_add (by omega), ht, Nat.add_assoc]
    generalize y.cnt = yc at *
    clear hym hy ht hq
    obtain ⟨yk, yt, yx, ym, yl⟩ := y
    rw [enc_mk] at *
    simp (config := {maxSteps := 1000000}) only [g, hac, hp, wi, hqy, ws, len_encs, hT_q, i_callNe, Int.natCast_nonneg, Nat.le_refl, Int.le_refl, List.take_succ_cons, List.take_zero, decide_true, decide_false, Bool.and_false, Bool.false_and, zz, zzN, zzF, zzD, zzM, cond_true, cond_false, ↓reduceIte, Nat.reduceEqDiff, Nat.reduceBEq, Int.reduceLT, Int.reduceLE, Int.reduceToNat, Int.reduceEq, Int.reduceAdd, Int.reduceSub, Int.reduceMul, Int.reduceNeg, Nat.reduceMul, Nat.reduceSub, Nat.reduceLeDiff, Nat.reduceLT, Int.reduceGT, Int.reduceGE, Int.reduceBEq, Int.reduceBNe, reduceCtorEq, Nat.reduceAdd]
    intro _
    exact hQ (i + 1) _ _ c (by simp only [i_callNe, Int.natCast_nonneg, Nat.le_refl, Int.le_refl, List.take_succ_cons, List.take_zero, decide_true, decide_false, Bool.and_false, Bool.false_and, zz, zzN, zzF, zzD, zzM, cond_true, cond_false, ↓reduceIte, Nat.reduceEqDiff, Nat.reduceBEq, Int.reduceLT, Int.reduceLE, Int.reduceToNat, Int.reduceEq, Int.reduceAdd, Int.reduceSub, Int.reduceMul, Int.reduceNeg, Nat.reduceMul, Nat.reduceSub, Nat.reduceLeDiff, Nat.reduceLT, Int.reduceGT, Int.reduceGE, Int.reduceBEq, Int.reduceBNe, reduceCtorEq, Nat.reduceAdd]) (AHeap.sub_refl _) (by omega)
theorem rcount_c (n : Nd) (h : n.cnt < 1000000000) : PCall Tryd.prog 48 [.agg n.enc] (.int .i64 n.cnt) :=
  byCnt (M := 1000000000) (g := fun n => .int .i64 n.cnt) (Tab.zero_ok _) (q := qT) (fun k hk hT n hn _ => rcount_step k hk hT n hn) 1000000000 (Nat.le_refl _) n h rfl
mutual
/-- All nodes, by their places. -/
def listF : Nd → List Nd
  | .mk k t s n l => .mk k t s n l :: listFs l
def listFs : List Nd → List Nd
  | [] => []
  | x :: l => listF x ++ listFs l
end
theorem listF_mk (k t : Int) (s : List UInt8) (n : Int) (l : List Nd) : listF (.mk k t s n l) = .mk k t s n l :: listFs l := by rw [listF]
theorem listFs_nil : listFs [] = [] := by rw [listFs]
theorem listFs_cons (x : Nd) (l : List Nd) : listFs (x :: l) = listF x ++ listFs l := by rw [listFs]
theorem listFs_app (l r : List Nd) : listFs (l ++ r) = listFs l ++ listFs r := by
  induction l with
  | nil => rw [listFs_nil]; rfl
  | cons x l ih => rw [List.cons_append, listFs_cons, ih, listFs_cons, List.append_assoc]
theorem listFs_take {l : List Nd} {i : Nat} {x : Nd} (h : l[i]? = some x) : listFs (l.take (i + 1)) = listFs (l.take i) ++ listF x := by
  rw [List.take_add_one, h, listFs_app]; simp [listFs_cons, listFs_nil]
theorem listF_len : ∀ x : Nd, (listF x).length = x.cnt := by
  intro x
  induction x using Nd.ind with
  | h x ih =>
    obtain ⟨k, t, s, n, l⟩ := x
    have hk : ∀ l : List Nd, (∀ y ∈ l, (listF y).length = y.cnt) → (listFs l).length = Nd.cnts l := by
      intro l
      induction l with
      | nil => intro _; rw [listFs_nil, cnts_nil]; rfl
      | cons y l ih =>
        intro h
        rw [listFs_cons, cnts_cons, List.length_append, h y (by simp), ih (fun z hz => h z (by simp [hz]))]
    rw [listF_mk, cnt_mk, List.length_cons, hk l (fun y hy => ih y (cnt_kid hy))]
    omega
set_option maxHeartbeats 1000000 in
theorem list_step (f : Nat) (hf : f < 1000000000) (hT : (Tab.zero.addQ 20 (qN (fun n => decide (n.cnt < f) && qT n) fun n => .sl (Nd.encs (listF n)))).ok Tryd.prog) (n : Nd) (hn : n.cnt < f + 1) : PCall Tryd.prog 20 [.agg n.enc] (.sl (Nd.encs (listF n))) := by
  refine PCall.run hT st20n (by simp) fun E => ?_
  have hT_q : ∀ g args, (Tab.zero.addQ 20 (qN (fun n => decide (n.cnt < f) && qT n) fun n => .sl (Nd.encs (listF n)))).q g args = if g = 20 then qN (fun n => decide (n.cnt < f) && qT n) (fun n => .sl (Nd.encs (listF n))) args else Tab.zero.q g args := fun g args => rfl
  have hq : ∀ y : Nd, y.cnt < f → qN (fun n => decide (n.cnt < f) && qT n) (fun n => .sl (Nd.encs (listF n))) [.agg y.enc] = some (.sl (Nd.encs (listF y))) := fun y hy => qN_eq (by simpa [qT] using hy)
  generalize Tab.zero.addQ 20 (qN (fun n => decide (n.cnt < f) && qT n) fun n => .sl (Nd.encs (listF n))) = TT at hT_q ⊢
  obtain ⟨k, t, x, m, l⟩ := n
  have hcnt : ∀ y ∈ l, y.cnt < f := fun y hy => by have := cnt_kid (k := k) (t := t) (s := x) (n := m) hy; omega
  have hL := listF_len (.mk k t x m l)
  rw [cnt_mk] at hn hL
  have hln := cnts_len l
  rw [listF_mk, List.length_cons] at hL
  rw [enc_mk, listF_mk, encs_cons, enc_mk]
  simp (config := {maxSteps := 1000000}) only [s20n, hT_q, i_callNe, Int.natCast_nonneg, Nat.le_refl, Int.le_refl, List.take_succ_cons, List.take_zero, decide_true, decide_false, Bool.and_false, Bool.false_and, zz, zzN, zzF, zzD, zzM, cond_true, cond_false, ↓reduceIte, Nat.reduceEqDiff, Nat.reduceBEq, Int.reduceLT, Int.reduceLE, Int.reduceToNat, Int.reduceEq, Int.reduceAdd, Int.reduceSub, Int.reduceMul, Int.reduceNeg, Nat.reduceMul, Nat.reduceSub, Nat.reduceLeDiff, Nat.reduceLT, Int.reduceGT, Int.reduceGE, Int.reduceBEq, Int.reduceBNe, reduceCtorEq, Nat.reduceAdd]
  intro i1 i2 n1 n2
  have hA0 : ∀ i, Nd.encs (.mk k t x m l :: listFs (l.take i)) = [.int .i64 k, .int .i64 t, .str x, .int .i64 m, .sl (Nd.encs l)] :: Nd.encs (listFs (l.take i)) := fun i => by rw [encs_cons, enc_mk]
  have hAl : ∀ i, (listFs (l.take i)).length ≤ Nd.cnts l := fun i => by
    have e : (listFs l).length = (listFs (l.take i)).length + (listFs (l.drop i)).length := by rw [← List.length_append, ← listFs_app, List.take_append_drop]
    omega
  refine run_loop (X := Nat) (fun z => [(1, .ptr i1 1 0), (3, .row i2 ((listFs (l.take z)).length + 1 + 2) 0 ((listFs (l.take z)).length + 1)), (4, .int .i64 z)])
    (fun z => (AHeap.emp.set i1 (.cells [.int .i64 k, .int .i64 t, .str x, .int .i64 m, .sl (Nd.encs l)])).set i2 (.row 5 ((listFs (l.take z)).length + 1 + 2) ([.int .i64 k, .int .i64 t, .str x, .int .i64 m, .sl (Nd.encs l)] :: Nd.encs (listFs (l.take z))) false)) (fun z => l.length - z) (fun z => z ≤ l.length) 0 (Nat.zero_le _) ?_ ?_ ?_
  · simp only [List.take_zero, listFs_nil, List.length_nil, i_callNe, Int.natCast_nonneg, Nat.le_refl, Int.le_refl, List.take_succ_cons, List.take_zero, decide_true, decide_false, Bool.and_false, Bool.false_and, zz, zzN, zzF, zzD, zzM, cond_true, cond_false, ↓reduceIte, Nat.reduceEqDiff, Nat.reduceBEq, Int.reduceLT, Int.reduceLE, Int.reduceToNat, Int.reduceEq, Int.reduceAdd, Int.reduceSub, Int.reduceMul, Int.reduceNeg, Nat.reduceMul, Nat.reduceSub, Nat.reduceLeDiff, Nat.reduceLT, Int.reduceGT, Int.reduceGE, Int.reduceBEq, Int.reduceBNe, reduceCtorEq, Nat.reduceAdd]
  · simp only [List.take_zero, listFs_nil, List.length_nil, encs_nil]
    exact AHeap.sub_refl _
  intro i Q j0 hQ
  cases c : decide (i < l.length) with
  | false =>
    have e0 : i = l.length := by simp at c; omega
    have g : ((i : Int) < (l.length : Int)) = False := eq_false (by omega)
    have tk : (Nd.encs (listFs l)).take (listFs l).length = Nd.encs (listFs l) := List.take_of_length_le (by rw [len_encs]; omega)
    rw [e0, List.take_length]
    rw [e0] at g
    simp (config := {maxSteps := 1000000}) only [g, n1, n2, tk, len_encs, hT_q, i_callNe, Int.natCast_nonneg, Nat.le_refl, Int.le_refl, List.take_succ_cons, List.take_zero, decide_true, decide_false, Bool.and_false, Bool.false_and, zz, zzN, zzF, zzD, zzM, cond_true, cond_false, ↓reduceIte, Nat.reduceEqDiff, Nat.reduceBEq, Int.reduceLT, Int.reduceLE, Int.reduceToNat, Int.reduceEq, Int.reduceAdd, Int.reduceSub, Int.reduceMul, Int.reduceNeg, Nat.reduceMul, Nat.reduceSub, Nat.reduceLeDiff, Nat.reduceLT, Int.reduceGT, Int.reduceGE, Int.reduceBEq, Int.reduceBNe, reduceCtorEq, Nat.reduceAdd]
  | true =>
    have c : i < l.length := by simpa using c
    obtain ⟨y, hy⟩ : ∃ y, l[i]? = some y := ⟨_, List.getElem?_eq_getElem c⟩
    have g : ((i : Int) < (l.length : Int)) = True := eq_true (by omega)
    have hym : y ∈ l := List.mem_of_getElem? hy
    have wi : IntKind.i64.wrap ((i : Int) + 1) = ((i + 1 : Nat) : Int) := wrap_succ (by omega)
    have hp := part_enc y
    have hac : ∀ (K : D → AHeap → Prop) (h : AHeap), askE 5 K h (Nd.encs l) (i : Int) = K (.eptr y.enc 0) h := fun K h => askE_encs hy
    have hqy := hq y (hcnt y hym)
    have ht := listFs_take hy
    have hle := hAl (i + 1)
    rw [ht, List.length_append] at hle
    generalize listF y = ly at *
    have hall : ∀ z ∈ Nd.encs ly, z.length = 5 ∧ z.all cellOk = true := fun z hz => by
      rw [encs_map] at hz
      obtain ⟨w, _, rfl⟩ := List.mem_map.1 hz
      exact ⟨len_enc w, enc_ok w⟩
    clear hym hy hq
    obtain ⟨yk, yt, yx, ym, yl⟩ := y
    rw [enc_mk] at *
    simp (config := {maxSteps := 1000000}) only [g, hac, hp, wi, hqy, len_encs, n1, n2, hT_q, i_callNe, Int.natCast_nonneg, Nat.le_refl, Int.le_refl, List.take_succ_cons, List.take_zero, decide_true, decide_false, Bool.and_false, Bool.false_and, zz, zzN, zzF, zzD, zzM, cond_true, cond_false, ↓reduceIte, Nat.reduceEqDiff, Nat.reduceBEq, Int.reduceLT, Int.reduceLE, Int.reduceToNat, Int.reduceEq, Int.reduceAdd, Int.reduceSub, Int.reduceMul, Int.reduceNeg, Nat.reduceMul, Nat.reduceSub, Nat.reduceLeDiff, Nat.reduceLT, Int.reduceGT, Int.reduceGE, Int.reduceBEq, Int.reduceBNe, reduceCtorEq, Nat.reduceAdd]
    intro _
    refine ⟨hall, by omega, ?_⟩
    have ee : Nd.encs (listFs (l.take i) ++ ly) = Nd.encs (listFs (l.take i)) ++ Nd.encs ly := encs_app _ _
    have e1 : (listFs (l.take i)).length + ly.length + 1 + 2 = (listFs (l.take i)).length + 1 + 2 + ly.length := by omega
    have e2 : (listFs (l.take i)).length + ly.length + 1 = (listFs (l.take i)).length + 1 + ly.length := by omega
    refine hQ (i + 1) _ _ c ?_ ?_ (by omega)
    · rw [ht, List.length_append, e1, e2]
      simp only [i_callNe, Int.natCast_nonneg, Nat.le_refl, Int.le_refl, List.take_succ_cons, List.take_zero, decide_true, decide_false, Bool.and_false, Bool.false_and, zz, zzN, zzF, zzD, zzM, cond_true, cond_false, ↓reduceIte, Nat.reduceEqDiff, Nat.reduceBEq, Int.reduceLT, Int.reduceLE, Int.reduceToNat, Int.reduceEq, Int.reduceAdd, Int.reduceSub, Int.reduceMul, Int.reduceNeg, Nat.reduceMul, Nat.reduceSub, Nat.reduceLeDiff, Nat.reduceLT, Int.reduceGT, Int.reduceGE, Int.reduceBEq, Int.reduceBNe, reduceCtorEq, Nat.reduceAdd]
    · rw [ht, List.length_append, e1, ee]
      exact AHeap.sub_refl _
theorem list_c (n : Nd) (h : n.cnt < 1000000000) : PCall Tryd.prog 20 [.agg n.enc] (.sl (Nd.encs (listF n))) :=
  byCnt (M := 1000000000) (g := fun n => .sl (Nd.encs (listF n))) (Tab.zero_ok _) (q := qT) (fun k hk hT n hn _ => list_step k hk hT n hn) 1000000000 (Nat.le_refl _) n h rfl
end
end Go.Proofs.YthpgepillaeldaaDoor.Zz
