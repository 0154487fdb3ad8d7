/- Contracts: a declaration. -/
import Derived.Test.YtpagdhbmbnoddaaGreatDoorZC12
import Derived.Test.YtpagdhbmbnoddaaGreatDoorZP1
set_option linter.unnecessarySimpa false
set_option linter.unusedVariables false
set_option linter.unusedSimpArgs false
set_option maxRecDepth 20000
namespace Go.Proofs.YtpagdhbmbnoddaaGreatDoor.Zz
noncomputable section
def p50c : Plan := ⟨⟨[], [(3, 2), (17, 1), (19, 8), (20, 4), (22, 1), (23, 5), (5, 9), (9, 9), (10, 1), (11, 5), (14, 4), (14, 11), (15, 6), (14, 4), (14, 11)], [], [((14, 4), [(.t 3)]), ((14, 4), [(.t 3), (.t 70)])], [((14, 10), (.t 3)), ((14, 7), (.t 3)), ((14, 10), (.t 70))], []⟩, [(14, [0, 1, 2, 3, 5, 6, 7, 8, 9, 10, 4, 11, 12, 13, 14, 15])], [], false⟩
def s50c : Stm :=
 .seq (.ops [⟨.box (.t 1), some 3, none, false⟩,
 ⟨.alloc [(.int .i64 0), (.int .i64 0), (.str []), (.int .i64 0), .nilsl], some 4, none, false⟩])
 (.seq (.ops [⟨.load (some 5) (.t 3), some 10, none, false⟩,
 ⟨.alloc [(.int .i64 0), (.int .i64 0), (.str []), (.int .i64 0), .nilsl], some 5, none, false⟩,
 ⟨.store 5 (.t 5) (.t 10), none, none, false⟩])
 (.seq (.ops [⟨.fieldAddr 4 (.t 3), some 11, none, true⟩,
 ⟨.load none (.t 11), some 12, none, false⟩,
 ⟨.len .sl (.t 12), some 13, none, false⟩,
 ⟨.bin .sub (.t 13) (.c (.int .i64 1)), some 14, none, true⟩,
 ⟨.mov (.t 14), some 6, none, true⟩])
 (.seq (.ops [⟨.mov (.t 6), some 15, none, true⟩,
 ⟨.bin .geq (.t 15) (.c (.int .i64 0)), some 16, none, true⟩,
 ⟨.call (.f 49) [(.t 16), (.c (.int .i64 125))], some 17, none, false⟩])
 (.seq (.seq (.ops [⟨.fieldAddr 0 (.t 3), some 18, none, true⟩,
 ⟨.load none (.t 18), some 19, none, false⟩])
 (.block 0 (.seq (.ops [⟨.bin .eql (.t 19) (.c (.int .i64 2)), some 86, none, true⟩,
 ⟨.mov (.t 86), some 85, none, true⟩])
 (.cond (.t 85)
 (.seq (.ops [⟨.load (some 5) (.t 3), some 87, none, false⟩,
 ⟨.call (.f 73) [(.t 87), (.c (.int .i64 1))], some 88, none, false⟩])
 (.seq (.ops [⟨.fieldAddr 4 (.t 3), some 89, none, true⟩,
 ⟨.load none (.t 89), some 90, none, false⟩,
 ⟨.indexAddrS 5 (.t 90) (.c (.int .i64 0)), some 91, none, false⟩,
 ⟨.load (some 5) (.t 91), some 92, none, false⟩,
 ⟨.alloc [(.int .i64 0), (.int .i64 0), (.str []), (.int .i64 0), .nilsl], some 7, none, false⟩,
 ⟨.store 5 (.t 7) (.t 92), none, none, false⟩])
 (.seq (.ops [⟨.fieldAddr 0 (.t 7), some 93, none, true⟩,
 ⟨.load none (.t 93), some 94, none, false⟩,
 ⟨.bin .geq (.t 94) (.c (.int .i64 20)), some 95, none, true⟩,
 ⟨.mov (.t 95), some 96, none, true⟩,
 ⟨.fieldAddr 0 (.t 7), some 97, (some (96, true)), true⟩,
 ⟨.load none (.t 97), some 98, (some (96, true)), false⟩,
 ⟨.bin .leq (.t 98) (.c (.int .i64 22)), some 99, (some (96, true)), true⟩,
 ⟨.pick (.t 96) (.t 99) (.c (.bool false)), some 100, none, true⟩,
 ⟨.call (.f 49) [(.t 100), (.c (.int .i64 125))], some 101, none, false⟩])
 (.ops [⟨.mov (.t 0), some 102, none, true⟩,
 ⟨.load (some 5) (.t 7), some 103, none, false⟩,
 ⟨.fieldAddr 1 (.t 3), some 104, none, true⟩,
 ⟨.load none (.t 104), some 105, none, false⟩,
 ⟨.call (.f 74) [(.t 102), (.t 103), (.t 105)], some 106, none, false⟩,
 ⟨.buildSlice 5 [(.int .i64 0), (.int .i64 0), (.str []), (.int .i64 0), .nilsl] 1 [(0, (.t 106))] false, some 107, none, true⟩,
 ⟨.fieldAddr 4 (.t 5), some 108, none, true⟩,
 ⟨.store 1 (.t 108) (.t 107), none, none, false⟩]))))
 (.seq (.ops [⟨.bin .eql (.t 19) (.c (.int .i64 4)), some 110, none, true⟩,
 ⟨.mov (.t 110), some 109, none, true⟩])
 (.cond (.t 109)
 (.seq (.ops [⟨.load (some 5) (.t 3), some 111, none, false⟩,
 ⟨.call (.f 73) [(.t 111), (.c (.int .i64 1))], some 112, none, false⟩])
 (.ops [⟨.mov (.t 0), some 113, none, true⟩,
 ⟨.fieldAddr 4 (.t 3), some 114, none, true⟩,
 ⟨.load none (.t 114), some 115, none, false⟩,
 ⟨.indexAddrS 5 (.t 115) (.c (.int .i64 0)), some 116, none, false⟩,
 ⟨.load (some 5) (.t 116), some 117, none, false⟩,
 ⟨.call (.f 75) [(.t 113), (.t 117)], some 118, none, false⟩,
 ⟨.buildSlice 5 [(.int .i64 0), (.int .i64 0), (.str []), (.int .i64 0), .nilsl] 1 [(0, (.t 118))] false, some 119, none, true⟩,
 ⟨.fieldAddr 4 (.t 5), some 120, none, true⟩,
 ⟨.store 1 (.t 120) (.t 119), none, none, false⟩]))
 (.seq (.ops [⟨.fieldAddr 0 (.t 3), some 20, none, true⟩,
 ⟨.load none (.t 20), some 21, none, false⟩,
 ⟨.bin .eql (.t 21) (.c (.int .i64 3)), some 22, none, true⟩,
 ⟨.mov (.t 22), some 23, none, true⟩,
 ⟨.fieldAddr 1 (.t 3), some 24, (some (23, true)), true⟩,
 ⟨.load none (.t 24), some 25, (some (23, true)), false⟩,
 ⟨.qcall (.f 45) [(.t 25)], some 26, (some (23, true)), false⟩,
 ⟨.bin .neq (.t 26) (.c (.str [])), some 27, (some (23, true)), true⟩,
 ⟨.pick (.t 23) (.t 27) (.c (.bool false)), some 28, none, true⟩,
 ⟨.call (.f 49) [(.t 28), (.c (.int .i64 125))], some 29, none, false⟩])
 (.seq (.seq (.ops [⟨.fieldAddr 4 (.t 3), some 30, none, true⟩,
 ⟨.load none (.t 30), some 31, none, false⟩,
 ⟨.mov (.t 6), some 32, none, true⟩,
 ⟨.slice (.sl 5) (.t 31) none (some (.t 32)) none, some 33, none, false⟩,
 ⟨.len .sl (.t 33), some 34, none, false⟩,
 ⟨.mov (.c (.int .i64 0)), some 35, none, true⟩])
 (.block 1 (.loop (.seq (.ops [⟨.bin .lss (.t 35) (.t 34), some 36, none, true⟩])
 (.seq (.cond (.t 36)
 (.skip)
 (.exit 1))
 (.seq (.block 2 (.seq (.ops [⟨.indexAddrS 5 (.t 33) (.t 35), some 37, none, false⟩,
 ⟨.load (some 5) (.t 37), some 38, none, false⟩,
 ⟨.alloc [(.int .i64 0), (.int .i64 0), (.str []), (.int .i64 0), .nilsl], some 9, none, false⟩,
 ⟨.store 5 (.t 9) (.t 38), none, none, false⟩])
 (.seq (.ops [⟨.fieldAddr 0 (.t 9), some 39, none, true⟩,
 ⟨.load none (.t 39), some 40, none, false⟩,
 ⟨.bin .eql (.t 40) (.c (.int .i64 5)), some 41, none, true⟩,
 ⟨.mov (.t 41), some 42, none, true⟩,
 ⟨.fieldAddr 1 (.t 9), some 43, (some (42, true)), true⟩,
 ⟨.load none (.t 43), some 44, (some (42, true)), false⟩,
 ⟨.qcall (.f 45) [(.t 44)], some 45, (some (42, true)), false⟩,
 ⟨.bin .neq (.t 45) (.c (.str [])), some 46, (some (42, true)), true⟩,
 ⟨.pick (.t 42) (.t 46) (.c (.bool false)), some 47, none, true⟩,
 ⟨.call (.f 49) [(.t 47), (.c (.int .i64 125))], some 48, none, false⟩])
 (.seq (.ops [⟨.load (some 5) (.t 9), some 49, none, false⟩,
 ⟨.call (.f 73) [(.t 49), (.c (.int .i64 0))], some 50, none, false⟩])
 (.ops [⟨.mov (.t 0), some 51, none, true⟩,
 ⟨.fieldAddr 2 (.t 9), some 52, none, true⟩,
 ⟨.load none (.t 52), some 53, none, false⟩,
 ⟨.fieldAddr 1 (.t 9), some 54, none, true⟩,
 ⟨.load none (.t 54), some 55, none, false⟩,
 ⟨.call (.f 76) [(.t 51), (.t 53), (.t 55)], some 56, none, false⟩])))))
 (.ops [⟨.bin .add (.t 35) (.c (.int .i64 1)), some 57, none, true⟩,
 ⟨.mov (.t 57), some 35, none, true⟩])))))))
 (.seq (.ops [⟨.mov (.t 0), some 58, none, true⟩,
 ⟨.fieldAddr 1 (.t 3), some 59, none, true⟩,
 ⟨.load none (.t 59), some 60, none, false⟩,
 ⟨.nilCheck (.t 58), some 61, none, true⟩,
 ⟨.fieldAddr 7 (.t 61), some 62, none, true⟩,
 ⟨.store 1 (.t 62) (.t 60), none, none, false⟩])
 (.seq (.opsD 63 [⟨.fieldAddr 4 (.t 3), some 63, none, true⟩,
 ⟨.load none (.t 63), some 64, none, false⟩,
 ⟨.mov (.t 6), some 65, none, true⟩,
 ⟨.slice (.sl 5) (.t 64) none (some (.t 65)) none, some 66, none, true⟩,
 ⟨.mov (.t 0), some 68, none, true⟩,
 ⟨.fieldAddr 4 (.t 3), some 69, none, true⟩,
 ⟨.loadOf none (.t 69) (.t 3), some 70, none, false⟩,
 ⟨.mov (.t 6), some 71, none, true⟩,
 ⟨.indexAddrS 5 (.t 70) (.t 71), some 72, none, true⟩,
 ⟨.loadOf (some 5) (.t 72) (.t 3), some 73, none, false⟩,
 ⟨.callNe (.f 77) [(.t 66)] [(.t 3)], some 67, none, false⟩,
 ⟨.call (.f 75) [(.t 68), (.t 73)], some 74, none, false⟩,
 ⟨.buildSlice 5 [(.int .i64 0), (.int .i64 0), (.str []), (.int .i64 0), .nilsl] 1 [(0, (.t 74))] false, some 75, none, true⟩,
 ⟨.append 5 64 false (.t 67) (.t 75), some 76, none, false⟩,
 ⟨.fieldAddr 4 (.t 5), some 77, none, true⟩,
 ⟨.store 1 (.t 77) (.t 76), none, none, false⟩])
 (.ops [⟨.fieldAddr 4 (.t 3), some 78, none, true⟩,
 ⟨.load none (.t 78), some 79, none, false⟩,
 ⟨.mov (.t 6), some 80, none, true⟩,
 ⟨.indexAddrS 5 (.t 79) (.t 80), some 81, none, false⟩,
 ⟨.load (some 5) (.t 81), some 82, none, false⟩,
 ⟨.qcall (.f 78) [(.t 82)], some 83, none, false⟩,
 ⟨.call (.f 49) [(.t 83), (.c (.int .i64 124))], some 84, none, false⟩])))))))))))
 (.seq (.ops [⟨.load (some 5) (.t 5), some 121, none, false⟩,
 ⟨.store 5 (.t 4) (.t 121), none, none, false⟩])
 (.ret))))))
theorem st50c : stmOf Tryz.prog 50 p50c = some (s50c, [.cell 4 (some 5)], 122) := by kernel_rfl
def cDc (args : List D) (h : AHeap) (K E : D → AHeap → Prop) : Prop := ∃ (c : Nat) (p : Nd) (dn dt : D) (x : Nd), args = [.ptr c 1 0, .agg x.enc] ∧ ScAt h c p [] dn dt 0 ∧ x.cnt ≤ 400000 ∧
  (match declF p.lD x with
  | .ok x' => ∀ h', Grow h h' c → K (.agg x'.enc) h'
  | .error e => ∀ h', Grow h h' c → E (faultD e) h')
theorem cDc_mono (args : List D) (h : AHeap) (K E K' E' : D → AHeap → Prop) (hk : ∀ d h, K d h → K' d h) (he : ∀ d h, E d h → E' d h) (c : cDc args h K E) : cDc args h K' E' := by
  obtain ⟨c, p, dn, dt, x, a, b, e, k⟩ := c
  refine ⟨c, p, dn, dt, x, a, b, e, ?_⟩
  split at k
  · exact fun h' g => hk _ _ (k h' g)
  · exact fun h' g => he _ _ (k h' g)
theorem declF_snoc (ks : List Nd) (k t : Int) (s : List UInt8) (n : Int) (L : List Nd) (b : Nd) : declF ks (.mk k t s n (L ++ [b])) =
    if k == 2 then (match L ++ [b] with
      | [x] => if decide (20 ≤ x.kD) && decide (x.kD ≤ 22) then (match typedF ks [] x t with
        | .ok x' => .ok (.mk k t s n [x'])
        | .error e => .error e) else .error 125
      | _ => .error 125)
    else if k == 4 then (match L ++ [b] with
      | [x] => match blockF ks 0 x [] with
        | .ok x' => .ok (.mk k t s n [x'])
        | .error e => .error e
      | _ => .error 125)
    else if k == 3 && tyOk t then (match parsF ks L [] with
        | .ok sc => match blockF ks t b sc with
          | .ok b' => if endsF b then .ok (.mk k t s n (L ++ [b'])) else .error 124
          | .error e => .error e
        | .error e => .error e)
    else .error 125 := by
  rw [declF.eq_def]
  simp only
  rw [if_neg (by simp)]
  simp only [List.getLast?_append, List.getLast?_singleton, Option.some_or, List.dropLast_concat]
  rfl
def CpAt (H : AHeap) (L : List Nd) (d : D) (h1 : AHeap) : Prop := (L = [] ∧ d = .nilsl ∧ h1 = H) ∨ ∃ r, H.f r = none ∧ d = .row r (L.length + 2) 0 L.length ∧ h1 = H.set r (.row 5 (L.length + 2) (Nd.encs L) false)
theorem cCp_intro {L : List Nd} {H : AHeap} {K : D → AHeap → Prop} (hL : L.length ≤ 1000000000) (k : ∀ d h1, CpAt H L d h1 → K d h1) : cCp [.sl (Nd.encs L)] H K :=
  ⟨L, rfl, hL, fun e => k _ _ (.inl ⟨e, rfl, rfl⟩), fun r hr => k _ _ (.inr ⟨r, hr, rfl, rfl⟩)⟩
theorem CpAt.ext {H : AHeap} {L : List Nd} {d : D} {h1 : AHeap} (a : CpAt H L d h1) : Ext H h1 := by
  rcases a with ⟨_, _, rfl⟩ | ⟨r, hr, _, rfl⟩
  · exact Ext.refl _
  · exact (Ext.refl _).set hr
theorem app_cp {H : AHeap} {L : List Nd} {d : D} {h1 h2 : AHeap} {c : Nat} {y : Nd} {K : D → AHeap → Prop} (a : CpAt H L d h1) (g : Grow h1 h2 c) (hc : H.f c ≠ none) (hL : L.length ≤ 1000000)
    (k : ∀ r', (h2.f r' = none ∨ (H.f r' = none ∧ h2.f r' = some (.row 5 (L.length + 2) (Nd.encs L) false))) → K (.row r' (L.length + 1 + 2) 0 (L.length + 1)) (h2.set r' (.row 5 (L.length + 1 + 2) (Nd.encs L ++ [y.enc]) false))) : appK 5 64 d h2 K (some [y.enc]) := by
  rcases a with ⟨rfl, rfl, rfl⟩ | ⟨r, hr, rfl, rfl⟩
  · rw [app_nil]
    refine ⟨fun z hz => by rw [List.mem_singleton.1 hz]; exact ⟨len_enc y, enc_ok y⟩, by decide, by simp, by simp, fun _ id hid => ?_⟩
    exact k id (.inl hid)
  · have hrc : r ≠ c := fun e => hc (by rw [← e]; exact hr)
    have u := g.keep r (.row 5 (L.length + 2) (Nd.encs L) false) (by simp) hrc (fun _ _ _ _ e => by cases e)
    exact app_rowN (len_encs L) u ⟨len_enc y, enc_ok y⟩ (by omega) (by omega) (k r (.inr ⟨hr, u⟩))
theorem ScAt.ans {h : AHeap} {c : Nat} {p : Nd} {sc : Scp} {dn dt : D} {a t : Int} (s : ScAt h c p sc dn dt a) : ScAt (h.set c (cObj p dn dt t)) c p sc dn dt t := by
  have fr : ∀ {d xs}, RowAt h d xs → RowAt (h.set c (cObj p dn dt t)) d xs := fun r => r.frame fun j e => by
    obtain ⟨_, _, _, _, e2⟩ := r.arow e
    have : j ≠ c := fun x => by rw [x, s.obj] at e2; cases p; rw [cObj_mk] at e2; cases e2
    simp [this]
  exact ⟨by simp, fr s.nm, fr s.ty, s.ne⟩
theorem parsF_nil (ks : List Nd) (sc : Scp) : parsF ks [] sc = .ok sc := by rw [parsF]
theorem parsF_cons (ks : List Nd) (k t : Int) (s : List UInt8) (n : Int) (l r : List Nd) (sc : Scp) : parsF ks (.mk k t s n l :: r) sc = if k == 5 && tyOk t then (if l.length == 0 then (match defF ks sc s t with
    | .ok sc' => parsF ks r sc'
    | .error e => .error e) else .error 125) else .error 125 := by rw [parsF]; rfl
set_option maxHeartbeats 1000000 in
theorem cDc_ok (args : List D) (h : AHeap) (K E : D → AHeap → Prop) (c : cDc args h K E) : ACalls Tryz.prog 50 args h (AOut.to K E) := by
  obtain ⟨c, p, dn, dt, x, rfl, hs, hb, hk⟩ := c
  refine ACalls.of_stmD tb45c_ok (dc := DTab.none) (fun _ _ => DTab.none_ok) (by kernel_rfl) st50c (by simp) ?_
  rw [vc_todo]
  obtain ⟨k, t, s, n, l⟩ := x
  have hln : Nd.cnts l + 1 ≤ 400000 := by rw [cnt_mk] at hb; omega
  have hll : l.length ≤ 400000 := by have := cnts_len l; omega
  rw [enc_mk]
  simp (maxSteps := 1000000) only [s50c, tb45c_e, zzK, seval]
  intro i1 k1 i2 n1 n2 k2
  simp (maxSteps := 1000000) only [n1, n2, tb45c_e, zzK, seval]
  intro i3 m1 m2 m3 m4 k3
  have ho := hs.obj
  have d1 : ¬ c = i1 := fun e => by rw [e, k1] at ho; cases ho
  have d2 : ¬ c = i2 := fun e => by rw [e, k2] at ho; cases ho
  have d3 : ¬ c = i3 := fun e => by rw [e, k3] at ho; cases ho
  have d1' : ¬ i1 = c := fun e => d1 e.symm
  have d2' : ¬ i2 = c := fun e => d2 e.symm
  have d3' : ¬ i3 = c := fun e => d3 e.symm
  have ext3 : ∀ o o' o'', Ext h (((h.set i1 o).set i2 o').set i3 o'') := fun o o' o'' => (((Ext.refl h).set k1).set k2).set k3
  have nar : ∀ {ds : List D}, ∀ sz ver xs old, AObj.cells ds ≠ .arow sz ver xs old := fun _ _ _ _ e => by cases e
  rcases List.eq_nil_or_concat l with rfl | ⟨L, b, rfl⟩
  · simp (maxSteps := 1000000) only [encs_nil, n1, n2, m1, m2, m3, m4, len_encs, tb45c_e, zzK, seval]
    rw [declF.eq_def] at hk
    simp only [List.length_nil, beq_self_eq_true, if_true] at hk
    have hw : IntKind.i64.wrap (-1) = -1 := wrap_i64 (by omega) (by omega)
    have g : decide ((-1 : Int) ≥ 0) = false := by decide
    simp (maxSteps := 1000000) only [hw, g, cNeed, q49c, crP_err, cond_false, panD, leav_nil, finD, zzK, seval]
    exact ⟨_, AHeap.sub_refl _, hk _ ((ext3 _ _ _).grow c)⟩
  · simp only [List.concat_eq_append] at hln hll hk k1 k2 k3 ext3 ⊢
    rw [declF_snoc] at hk
    rw [List.length_append, List.length_singleton] at hll
    rw [cnts_app, cnts_cons, cnts_nil] at hln
    have hw : IntKind.i64.wrap (((L.length + 1 : Nat) : Int) - 1) = (L.length : Int) := by
      rw [show ((L.length + 1 : Nat) : Int) - 1 = (L.length : Int) by omega]
      exact wrap_nat (by omega)
    have hge : decide ((L.length : Int) ≥ 0) = true := decide_eq_true (by omega)
    simp (maxSteps := 1000000) only [n1, n2, m1, m2, m3, m4, hw, hge, cNeed, q49c, crP_ok, cond_true, len_encs, List.length_append, List.length_cons, List.length_nil, Nat.zero_add, tb45c_e, zzK, seval]
    intro _
    cases c2c : (k == 2) with
    | true =>
      simp only [c2c, if_true] at hk
      simp (maxSteps := 1000000) only [c2c, n1, n2, m1, m2, m3, m4, tb45c_e, zzK, seval]
      refine ⟨.mk k t s n (L ++ [b]), 1, by rw [enc_mk], ?_⟩
      simp only [Nd.lD, List.length_append, List.length_cons, List.length_nil, Nat.zero_add]
      rcases L with _ | ⟨a, L⟩
      · have hac : ∀ (K : D → AHeap → Prop) (h : AHeap), askE 5 K h (Nd.encs [b]) (0 : Int) = K (.eptr b.enc 0) h := fun K h => askE_encs (l := [b]) (i := 0) rfl
        simp only [List.nil_append] at hk hac k1 k2 k3 hln ⊢
        have hx0 : b.cnt ≤ 1000000 := by omega
        obtain ⟨bk, bt, bs, bn, bl⟩ := b
        rw [enc_mk] at hac
        have cl' : (((List.length ([] : List Nd) + 1 : Nat) : Int) == 1) = true := rfl
        simp (maxSteps := 1000000) only [cl', hac, n1, n2, m1, m2, m3, m4, cond_true, tb45c_e, zzK, seval]
        intro i4 o1 o2 o3 o4 o5 o6 k4
        have d4 : ¬ c = i4 := fun e => by rw [e, k4] at ho; cases ho
        have d4' : ¬ i4 = c := fun e => d4 e.symm
        have ext4 : ∀ o o' o'' o3, Ext h ((((h.set i1 o).set i2 o').set i3 o'').set i4 o3) := fun o o' o'' o3 => (ext3 o o' o'').set k4
        simp only [Nd.kD] at hk
        by_cases q1c : 20 ≤ bk
        · have g1 : (bk ≥ 20) = True := eq_true q1c
          by_cases q2c : bk ≤ 22
          · have g2 : decide (bk ≤ 22) = true := by simp [q2c]
            simp only [q1c, q2c, decide_true, Bool.and_true, if_true] at hk
            simp (maxSteps := 1000000) only [g1, g2, cNeed, q49c, crP_ok, cond_true, n1, n2, m1, m2, m3, m4, o1, o2, o3, o4, o5, o6, tb45c_e, zzK, seval]
            refine ⟨c, p, [], dn, dt, 0, .mk bk bt bs bn bl, t, by rw [enc_mk], hs.ext (ext4 _ _ _ _), hx0, ?_⟩
            cases hq : typedF p.lD [] (.mk bk bt bs bn bl) t with
            | error e =>
              rw [hq] at hk
              simp only at hk
              simp only [crN_err, crP_err, panD, leav_nil, finD]
              exact ⟨_, AHeap.sub_refl _, hk _ ((ext4 _ _ _ _).grow c)⟩
            | ok y =>
              rw [hq] at hk
              simp only at hk
              obtain ⟨yk, yt, ys, yn, yl⟩ := y
              simp (maxSteps := 1000000) only [crN_ok, crP_ok, enc_mk, n1, n2, m1, m2, m3, m4, o1, o2, o3, o4, o5, o6, retD_ret, leav_nil, tb45c_e, zzK, seval]
              exact fin_plain2 (x := .mk k t s n [.mk yk yt ys yn yl]) (i2 := i2) (by simp only [zzK, seval]) (by simp [enc_mk, encs_cons, encs_nil]) (hk _ ((((ext4 _ _ _ _).set k3).set k2).grow c))
          · have g2 : decide (bk ≤ 22) = false := by simp [q2c]
            simp only [q1c, q2c, decide_true, decide_false, Bool.and_false, Bool.false_eq_true, if_false] at hk
            simp (maxSteps := 1000000) only [g1, g2, cNeed, q49c, crP_err, cond_false, n1, n2, m1, m2, m3, m4, o1, o2, o3, o4, o5, o6, panD, leav_nil, finD, tb45c_e, zzK, seval]
            exact ⟨_, AHeap.sub_refl _, hk _ ((ext4 _ _ _ _).grow c)⟩
        · have g1 : (bk ≥ 20) = False := eq_false q1c
          simp only [q1c, decide_false, Bool.false_and, Bool.false_eq_true, if_false] at hk
          simp (maxSteps := 1000000) only [g1, cNeed, q49c, crP_err, cond_false, n1, n2, m1, m2, m3, m4, o1, o2, o3, o4, o5, o6, panD, leav_nil, finD, tb45c_e, zzK, seval]
          exact ⟨_, AHeap.sub_refl _, hk _ ((ext4 _ _ _ _).grow c)⟩
      · have hk : ∀ h', Grow h h' c → E (faultD 125) h' := by cases L <;> exact hk
        have cl' : ((((a :: L).length + 1 : Nat) : Int) == 1) = false := beq_eq_false_iff_ne.2 (by rw [List.length_cons]; omega)
        simp (maxSteps := 1000000) only [cl', cond_false, panD, leav_nil, finD, zzK, seval]
        exact ⟨_, AHeap.sub_refl _, hk _ ((ext3 _ _ _).grow c)⟩
    | false =>
      simp only [c2c, Bool.false_eq_true, if_false] at hk
      cases c4c : (k == 4) with
      | true =>
        simp only [c4c, if_true] at hk
        simp (maxSteps := 1000000) only [c2c, c4c, n1, n2, m1, m2, m3, m4, tb45c_e, zzK, seval]
        refine ⟨.mk k t s n (L ++ [b]), 1, by rw [enc_mk], ?_⟩
        simp only [Nd.lD, List.length_append, List.length_cons, List.length_nil, Nat.zero_add]
        rcases L with _ | ⟨a, L⟩
        · have hac : ∀ (K : D → AHeap → Prop) (h : AHeap), askE 5 K h (Nd.encs [b]) (0 : Int) = K (.eptr b.enc 0) h := fun K h => askE_encs (l := [b]) (i := 0) rfl
          simp only [List.nil_append] at hk hac k1 k2 k3 hln ⊢
          have hx0 : b.cnt + ([] : Scp).length ≤ 1000000 := by simp only [List.length_nil]; omega
          obtain ⟨bk, bt, bs, bn, bl⟩ := b
          rw [enc_mk] at hac
          have cl' : (((List.length ([] : List Nd) + 1 : Nat) : Int) == 1) = true := rfl
          simp (maxSteps := 1000000) only [cl', hac, n1, n2, m1, m2, m3, m4, cond_true, tb45c_e, zzK, seval]
          refine ⟨c, p, [], dn, dt, 0, .mk bk bt bs bn bl, by rw [enc_mk], hs.ext (ext3 _ _ _), hx0, ?_⟩
          cases hq : blockF p.lD 0 (.mk bk bt bs bn bl) [] with
          | error e =>
            rw [hq] at hk
            simp only at hk ⊢
            intro h' g
            simp only [panD, leav_nil, finD]
            exact ⟨_, AHeap.sub_refl _, hk _ (((ext3 _ _ _).grow c).trans g)⟩
          | ok y =>
            rw [hq] at hk
            simp only at hk ⊢
            obtain ⟨yk, yt, ys, yn, yl⟩ := y
            intro h' dn' dt' s' g
            have gg := ((ext3 _ _ _).grow c).trans g
            have u2 := g.keep i2 (.cells [.int .i64 0, .int .i64 0, .str [], .int .i64 0, .nilsl]) (by simp [n1, n2, m1, m2, m3, m4]) d2' nar
            have u3 := g.keep i3 (.cells [.int .i64 k, .int .i64 t, .str s, .int .i64 n, .sl (Nd.encs [.mk bk bt bs bn bl])]) (by simp [n1, n2, m1, m2, m3, m4]) d3' nar
            simp (maxSteps := 1000000) only [enc_mk, u2, u3, n1, n2, m1, m2, m3, m4, retD_ret, leav_nil, tb45c_e, zzK, seval]
            exact fin_plain2 (x := .mk k t s n [.mk yk yt ys yn yl]) (i2 := i2) (by simp only [zzK, seval]) (by simp [enc_mk, encs_cons, encs_nil]) (hk _ ((gg.put (.inl k3) (by simp [u3])).put (.inl k2) (by simp [m1, m2, m3, m4, u2])))
        · have hk : ∀ h', Grow h h' c → E (faultD 125) h' := by cases L <;> exact hk
          have cl' : ((((a :: L).length + 1 : Nat) : Int) == 1) = false := beq_eq_false_iff_ne.2 (by rw [List.length_cons]; omega)
          simp (maxSteps := 1000000) only [cl', cond_false, panD, leav_nil, finD, zzK, seval]
          exact ⟨_, AHeap.sub_refl _, hk _ ((ext3 _ _ _).grow c)⟩
      | false =>
        simp only [c4c, Bool.false_eq_true, if_false] at hk
        simp (maxSteps := 1000000) only [c2c, c4c, q45c, n1, n2, m1, m2, m3, m4, tb45c_e, zzK, seval]
        cases c3c : (k == 3) with
        | false =>
          simp only [c3c, Bool.false_and, Bool.false_eq_true, if_false] at hk
          simp (maxSteps := 1000000) only [c3c, cNeed, q49c, crP_err, cond_false, panD, leav_nil, finD, Bool.false_eq_true, if_false, zzK, seval]
          exact ⟨_, AHeap.sub_refl _, hk _ ((ext3 _ _ _).grow c)⟩
        | true =>
          simp only [c3c, Bool.true_and] at hk
          simp (maxSteps := 1000000) only [c3c, tyN, Bool.not_not, if_true, zzK, seval]
          cases ct : tyOk t with
          | false =>
            simp only [ct, Bool.false_eq_true, if_false] at hk
            simp (maxSteps := 1000000) only [ct, cNeed, q49c, crP_err, cond_false, panD, leav_nil, finD, zzK, seval]
            exact ⟨_, AHeap.sub_refl _, hk _ ((ext3 _ _ _).grow c)⟩
          | true =>
            simp only [ct, if_true] at hk
            have hsl : sliceEv (.sl 5) (.sl (Nd.encs (L ++ [b]))) none (some (.int .i64 (L.length : Int))) none = some (.sl (Nd.encs L)) := by
              rw [slN_take (L ++ [b]) L.length (by simp)]
              simp
            simp (maxSteps := 1000000) only [ct, cNeed, q49c, crP_ok, cond_true, hsl, n1, n2, m1, m2, m3, m4, len_encs, tb45c_e, zzK, seval]
            intro _
            refine run_loop (X := Nat × Scp × D × D × AHeap) (fun z => [(0, .ptr c 1 0), (3, .ptr i1 1 0), (4, .ptr i2 1 0), (5, .ptr i3 1 0), (6, .int .i64 L.length), (33, .sl (Nd.encs L)), (34, .int .i64 L.length), (35, .int .i64 z.1)]) (fun z => z.2.2.2.2) (fun z => L.length - z.1)
              (fun z => z.1 ≤ L.length ∧ z.2.2.2.2.f i1 = some (.cells [.int .i64 k, .int .i64 t, .str s, .int .i64 n, .sl (Nd.encs (L ++ [b]))]) ∧ z.2.2.2.2.f i2 = some (.cells [.int .i64 0, .int .i64 0, .str [], .int .i64 0, .nilsl]) ∧
                z.2.2.2.2.f i3 = some (.cells [.int .i64 k, .int .i64 t, .str s, .int .i64 n, .sl (Nd.encs (L ++ [b]))]) ∧
                ScAt z.2.2.2.2 c p z.2.1 z.2.2.1 z.2.2.2.1 0 ∧ Grow h z.2.2.2.2 c ∧ z.2.1.length ≤ z.1 ∧ parsF p.lD L [] = parsF p.lD (L.drop z.1) z.2.1) (0, [], dn, dt, _) ⟨Nat.zero_le _, ?_, ?_, ?_, hs.ext (ext3 _ _ _), (ext3 _ _ _).grow c, Nat.le_refl _, by rw [List.drop_zero]⟩ ?_ (AHeap.sub_refl _) ?_
            · simp [n1, n2, m1, m2, m3, m4]
            · simp [n1, n2, m1, m2, m3, m4]
            · simp [n1, n2, m1, m2, m3, m4]
            · simp only [zzK, seval]
            rintro ⟨i, sc, dn1, dt1, hh⟩ Q ⟨j0, v1, v2, v3, vs, vg, vl, va⟩ hQ
            simp only at j0 v1 v2 v3 vs vg vl va hQ ⊢
            cases c0c : decide (i < L.length) with
            | true =>
              have c0c : i < L.length := by simpa using c0c
              obtain ⟨y, hy⟩ : ∃ y, L[i]? = some y := ⟨_, List.getElem?_eq_getElem c0c⟩
              have g : ((i : Int) < (L.length : Int)) = True := eq_true (by omega)
              have wi : IntKind.i64.wrap ((i : Int) + 1) = ((i + 1 : Nat) : Int) := wrap_succ (by omega)
              have hac2 : ∀ (K : D → AHeap → Prop) (h : AHeap), askE 5 K h (Nd.encs L) (i : Int) = K (.eptr y.enc 0) h := fun K h => askE_encs hy
              rw [drop_consX hy] at va
              obtain ⟨yk, yt, yx, ym, yl⟩ := y
              rw [parsF_cons] at va
              rw [enc_mk] at hac2
              simp (maxSteps := 1000000) only [g, v1, v2, v3, hac2, q45c, tyN, Bool.not_not, tb45c_e, zzK, seval]
              intro i7 k7
              have ne_of : ∀ {q : Nat} {o : AObj}, hh.f q = some o → ¬ i7 = q := fun hq e => by rw [e, hq] at k7; cases k7
              have p1c := ne_of v1
              have p2c := ne_of v2
              have p3c := ne_of v3
              have pc := ne_of vs.obj
              have p1c' : ¬ i1 = i7 := fun e => p1c e.symm
              have p2c' : ¬ i2 = i7 := fun e => p2c e.symm
              have p3c' : ¬ i3 = i7 := fun e => p3c e.symm
              have kh7 : h.f i7 = none := by
                by_cases e : h.f i7 = none
                · exact e
                · exact absurd k7 (vg.dom i7 e)
              have s7c := fun o => vs.put (o := o) pc (by simp [k7])
              have g7 := fun o => vg.put (o := o) (.inl kh7) (by simp [k7])
              cases c5c : (yk == 5) with
              | false =>
                simp only [c5c, Bool.false_and, Bool.false_eq_true, if_false] at va
                rw [va] at hk
                simp only at hk
                simp (maxSteps := 1000000) only [c5c, cNeed, q49c, crP_err, cond_false, panD, leav_nil, finD, Bool.false_eq_true, if_false, zzK, seval]
                exact ⟨_, AHeap.sub_refl _, hk _ (g7 _)⟩
              | true =>
                simp only [c5c, Bool.true_and] at va
                cases ct2 : tyOk yt with
                | false =>
                  simp only [ct2, Bool.false_eq_true, if_false] at va
                  rw [va] at hk
                  simp only at hk
                  simp (maxSteps := 1000000) only [c5c, ct2, cNeed, q49c, crP_err, cond_false, panD, leav_nil, finD, if_true, zzK, seval]
                  exact ⟨_, AHeap.sub_refl _, hk _ (g7 _)⟩
                | true =>
                  simp only [ct2, if_true] at va
                  simp (maxSteps := 1000000) only [c5c, ct2, cNeed, q49c, crP_ok, cond_true, if_true, v1, v2, v3, p1c, p2c, p3c, p1c', p2c', p3c', tb45c_e, zzK, seval]
                  refine ⟨.mk yk yt yx ym yl, 0, by rw [enc_mk], ?_⟩
                  simp only [Nd.lD]
                  cases cl : (yl.length == 0) with
                  | false =>
                    have cl' : ((yl.length : Int) == 0) = false := beq_eq_false_iff_ne.2 (by have := beq_eq_false_iff_ne.1 cl; omega)
                    simp only [cl, Bool.false_eq_true, if_false] at va
                    rw [va] at hk
                    simp only at hk
                    simp (maxSteps := 1000000) only [cl', cond_false, panD, leav_nil, finD, zzK, seval]
                    exact ⟨_, AHeap.sub_refl _, hk _ (g7 _)⟩
                  | true =>
                    have cl' : ((yl.length : Int) == 0) = true := beq_iff_eq.2 (by have := beq_iff_eq.1 cl; omega)
                    simp only [cl, if_true] at va
                    simp (maxSteps := 1000000) only [cl', cond_true, v1, v2, v3, p1c, p2c, p3c, p1c', p2c', p3c', tb45c_e, zzK, seval]
                    refine ⟨c, p, sc, dn1, dt1, 0, yx, yt, rfl, s7c _, by omega, ?_⟩
                    cases hd : defF p.lD sc yx yt with
                    | error e =>
                      rw [hd] at va
                      simp only at va
                      rw [va] at hk
                      simp only at hk
                      simp only [panD, leav_nil, finD]
                      exact ⟨_, AHeap.sub_refl _, hk _ (g7 _)⟩
                    | ok sc' =>
                      rw [hd] at va
                      simp only at va ⊢
                      intro h' dn2 dt2 vs2 gh
                      have u1 := gh.keep i1 _ (by rw [AHeap.set_f, if_neg p1c']; exact v1) d1' nar
                      have u2 := gh.keep i2 _ (by rw [AHeap.set_f, if_neg p2c']; exact v2) d2' nar
                      have u3 := gh.keep i3 _ (by rw [AHeap.set_f, if_neg p3c']; exact v3) d3' nar
                      have hl := defF_len hd
                      simp (maxSteps := 1000000) only [wi, u1, u2, u3, tb45c_e, zzK, seval]
                      refine hQ (i + 1, sc', dn2, dt2, h') _ _ ⟨c0c, u1, u2, u3, vs2, (g7 _).trans gh, by simp only; omega, va⟩ (by simp only [zzK, seval]) (AHeap.sub_refl _) (by simp only; omega)
            | false =>
              have e0 : i = L.length := by simp at c0c; omega
              have g : ((i : Int) < (L.length : Int)) = False := eq_false (by omega)
              rw [List.drop_eq_nil_of_le (by omega), parsF_nil] at va
              rw [va] at hk
              simp only at hk
              have ho2 := vs.obj
              obtain ⟨pk, pt, ps, pn, pl⟩ := p
              rw [cObj_mk] at ho2
              have kdn := vs.nm.cell
              have kdt := vs.ty.cell
              have hsl2 : sliceEv (.sl 5) (.sl (Nd.encs (L ++ [b]))) none (some (.int .i64 (L.length : Int))) none = some (.sl (Nd.encs L)) := hsl
              have hbL : (L ++ [b])[L.length]? = some b := by simp
              have hac3 : ∀ (K : D → AHeap → Prop) (h : AHeap), askE 5 K h (Nd.encs (L ++ [b])) (L.length : Int) = K (.eptr b.enc 0) h := fun K h => askE_encs hbL
              have hv : valP (.indexAddrS 5 (.sl (Nd.encs (L ++ [b]))) (.int .i64 (L.length : Int))) = some (.eptr b.enc 0) := by
                have e1 : (Nd.encs (L ++ [b]))[L.length]? = some b.enc := encs_get hbL
                have e2 : (0 : Int) ≤ (L.length : Int) ∧ (L.length : Int) < ((Nd.encs (L ++ [b])).length : Int) := by rw [len_encs]; simp; omega
                simp [valP, pureEv, e1, e2, len_enc]
              obtain ⟨bk, bt, bs, bn, bl⟩ := b
              rw [enc_mk] at hac3 hv
              simp (maxSteps := 1000000) only [g, v1, v2, v3, d1, d2, d3, d1', d2', d3', hsl2, hv, ho2, kdn, kdt, tb45c_e, zzK, seval]
              have sA := vs.ans (t := t)
              have gA : Grow h (hh.set c (cObj (.mk pk pt ps pn pl) dn1 dt1 t)) c := vg.put (.inr rfl) (by simp [ho2])
              rw [cObj_mk] at sA gA
              refine cCp_intro (by omega) fun d h1 hcp => ?_
              have e1 := hcp.ext
              have w1 := e1 i1 (by simp [d1', v1])
              have w2 := e1 i2 (by simp [d2', v2])
              have w3 := e1 i3 (by simp [d3', v3])
              simp only [AHeap.set_f, d1', d2', d3', if_false, v1, v2, v3] at w1 w2 w3
              refine ⟨w1, c, .mk pk pt ps pn pl, sc, dn1, dt1, t, .mk bk bt bs bn bl, by rw [enc_mk], sA.ext e1, by omega, ?_⟩
              simp only [Nd.lD] at hk ⊢
              cases hq : blockF pl t (.mk bk bt bs bn bl) sc with
              | error e =>
                rw [hq] at hk
                simp only at hk ⊢
                intro h' gh σ hσ _
                simp only [panD]
                rw [hσ]
                simp only [leav_nil, finD]
                exact ⟨_, AHeap.sub_refl _, hk _ ((gA.trans (e1.grow c)).trans gh)⟩
              | ok y =>
                rw [hq] at hk
                simp only at hk ⊢
                intro h' dn' dt' s' gh
                have gg := (gA.trans (e1.grow c)).trans gh
                have u1 := gh.keep i1 _ w1 d1' nar
                have u2 := gh.keep i2 _ w2 d2' nar
                have u3 := gh.keep i3 _ w3 d3' nar
                have hE : qEnd [.agg (Nd.enc (.mk bk bt bs bn bl))] = some (.bool (endsF (.mk bk bt bs bn bl))) := qEnd_enc _
                rw [enc_mk] at hE
                simp (maxSteps := 1000000) only [u1, u2, u3, tb45c_e, zzK, seval]
                refine ⟨⟨len_enc y, enc_ok y⟩, ?_⟩
                rw [enc_unnil]
                refine app_cp hcp gh (by simp) (by omega) fun r hr' => ?_
                have rne : ∀ {q : Nat} {ds : List D}, h'.f q = some (.cells ds) → ¬ r = q := fun {q ds} hq e => by
                  subst e
                  rcases hr' with e | ⟨_, e⟩ <;> rw [e] at hq <;> cases hq
                have rar : ∀ sz ver xs old, h'.f r ≠ some (.arow sz ver xs old) := fun sz ver xs old e2 => by
                  rcases hr' with e | ⟨_, e⟩ <;> rw [e] at e2 <;> cases e2
                have kr : h.f r = none := by
                  by_cases e : h.f r = none
                  · exact e
                  · rcases hr' with e2 | ⟨e2, _⟩
                    · exact absurd e2 (gg.dom r e)
                    · exact absurd e2 (gA.dom r e)
                have so := s'.obj
                rw [cObj_mk] at so
                have r1 := rne u1
                have r2 := rne u2
                have r3 := rne u3
                have rc := rne so
                have r1' : ¬ i1 = r := fun e => r1 e.symm
                have r2' : ¬ i2 = r := fun e => r2 e.symm
                have r3' : ¬ i3 = r := fun e => r3 e.symm
                simp (maxSteps := 1000000) only [u1, u2, u3, r1, r2, r3, r1', r2', r3', m1, m2, m3, m4, hac3, hE, tb45c_e, zzK, seval]
                have g3 := (gg.put (o := .row 5 (L.length + 1 + 2) (Nd.encs L ++ [y.enc]) false) (.inl kr) rar).put (i := i3) (o := .cells [.int .i64 k, .int .i64 t, .str s, .int .i64 n, .row r (L.length + 1 + 2) 0 (L.length + 1)]) (.inl k3) (by simp [r3', u3])
                cases he : endsF (.mk bk bt bs bn bl) with
                | false =>
                  simp only [he, Bool.false_eq_true, if_false] at hk
                  simp (maxSteps := 1000000) only [he, cNeed, q49c, crP_err, cond_false, panD, leav_nil, finD, zzK, seval]
                  exact ⟨_, AHeap.sub_refl _, hk _ g3⟩
                | true =>
                  simp only [he, if_true] at hk
                  simp (maxSteps := 1000000) only [he, cNeed, q49c, crP_ok, cond_true, u1, u2, u3, r1, r2, r3, r1', r2', r3', m1, m2, m3, m4, retD_ret, leav_nil, tb45c_e, zzK, seval]
                  have g4 := g3.put (i := i2) (o := .cells [.int .i64 k, .int .i64 t, .str s, .int .i64 n, .row r (L.length + 1 + 2) 0 (L.length + 1)]) (.inl k2) (by simp [r2', u2, m1, m2, m3, m4])
                  refine fin_node2 (k := k) (T := t) (s := s) (n := n) (i2 := i2) (r := r) (i := L.length + 1) (done := L ++ [y]) (by simp only [zzK, seval]) (by simp only [ownD_pos (Nat.succ_ne_zero _), zzK, seval]) (by simp) (fun h0 => by simp [r2, r3, encs_snoc]) (fun h0 => absurd h0 (Nat.succ_ne_zero _)) (fun h0 => hk _ (g4.put (.inl kr) (by simp [r2, r3])))
def tb50c : Tab := tb45c.addE 50 cDc cDc_mono
theorem tb50c_q : tb50c.q = tb45c.q := rfl
theorem tb50c_a : tb50c.a = tb45c.a := rfl
theorem tb50c_c (g : FuncId) (args : List D) (h : AHeap) (K E : D → AHeap → Prop) : tb50c.c g args h K E = if g = 50 then cDc args h K E else tb45c.c g args h K E := rfl
theorem tb50c_ok : tb50c.ok Tryz.prog := Tab.addE_ok tb45c_ok cDc_ok
theorem tb50c_e : type_of% (And.intro (And.intro @tb50c_q (And.intro @tb50c_a @tb50c_c)) @tb45c_e) := (And.intro (And.intro @tb50c_q (And.intro @tb50c_a @tb50c_c)) @tb45c_e)
end
end Go.Proofs.YtpagdhbmbnoddaaGreatDoor.Zz
namespace Go.Proofs.YtpagdhbmbnoddaaGreatDoor.Zz
noncomputable section
def p28c : Plan := ⟨⟨[], [(5, 9), (8, 6)], [(5, 5)], [], [], []⟩, [(5, [0, 1, 2, 3, 4, 5, 6, 7, 8, 9])], [], false⟩
def s28c : Stm :=
 .seq (.ops [⟨.box (.t 0), some 2, none, false⟩,
 ⟨.alloc [(.int .i64 0), (.int .i64 0), (.str []), (.int .i64 0), .nilsl], some 4, none, false⟩,
 ⟨.alloc [(.int .i64 0)], some 5, none, false⟩])
 (.seq (.seq (.ops [⟨.mkFunc (.func 48) [] [(.t 4), (.t 5)], some 9, none, true⟩])
 (.defer (.t 9) []))
 (.seq (.seq (.ops [⟨.fieldAddr 4 (.t 2), some 10, none, true⟩,
 ⟨.load none (.t 10), some 11, none, false⟩,
 ⟨.mov (.t 1), some 12, none, true⟩,
 ⟨.slice (.sl 5) (.t 11) none (some (.t 12)) none, some 13, none, false⟩,
 ⟨.len .sl (.t 13), some 14, none, false⟩,
 ⟨.mov (.c (.int .i64 0)), some 15, none, true⟩])
 (.block 0 (.loop (.seq (.ops [⟨.bin .lss (.t 15) (.t 14), some 16, none, true⟩])
 (.seq (.cond (.t 16)
 (.skip)
 (.exit 0))
 (.seq (.block 1 (.seq (.ops [⟨.indexAddrS 5 (.t 13) (.t 15), some 17, none, false⟩,
 ⟨.load (some 5) (.t 17), some 18, none, false⟩,
 ⟨.alloc [(.int .i64 0), (.int .i64 0), (.str []), (.int .i64 0), .nilsl], some 7, none, false⟩,
 ⟨.store 5 (.t 7) (.t 18), none, none, false⟩])
 (.opsD 19 [⟨.fieldAddr 2 (.t 7), some 19, none, true⟩,
 ⟨.load none (.t 19), some 20, none, false⟩,
 ⟨.fieldAddr 4 (.t 2), some 21, none, true⟩,
 ⟨.load none (.t 21), some 22, none, false⟩,
 ⟨.mov (.t 1), some 23, none, true⟩,
 ⟨.indexAddrS 5 (.t 22) (.t 23), some 24, none, false⟩,
 ⟨.fieldAddr 2 (.t 24), some 25, none, true⟩,
 ⟨.load none (.t 25), some 26, none, false⟩,
 ⟨.bin .neq (.t 20) (.t 26), some 27, none, true⟩,
 ⟨.call (.f 49) [(.t 27), (.c (.int .i64 120))], some 28, none, false⟩])))
 (.ops [⟨.bin .add (.t 15) (.c (.int .i64 1)), some 29, none, true⟩,
 ⟨.mov (.t 29), some 15, none, true⟩])))))))
 (.seq (.ops [⟨.load (some 5) (.t 2), some 30, none, false⟩,
 ⟨.build [(.int .i64 0), (.int .i64 0), (.str []), (.int .i64 0), .nilsl, .nilsl, .nilsl, (.int .i64 0)] [(0, 5, (.t 30))], some 31, none, true⟩,
 ⟨.box (.t 31), some 32, none, false⟩,
 ⟨.mov (.t 32), some 8, none, true⟩])
 (.seq (.ops [⟨.mov (.t 8), some 33, none, true⟩,
 ⟨.fieldAddr 4 (.t 2), some 34, none, true⟩,
 ⟨.load none (.t 34), some 35, none, false⟩,
 ⟨.mov (.t 1), some 36, none, true⟩,
 ⟨.indexAddrS 5 (.t 35) (.t 36), some 37, none, false⟩,
 ⟨.load (some 5) (.t 37), some 38, none, false⟩,
 ⟨.call (.f 50) [(.t 33), (.t 38)], some 39, none, false⟩,
 ⟨.store 5 (.t 4) (.t 39), none, none, false⟩,
 ⟨.store 1 (.t 5) (.c (.int .i64 0)), none, none, false⟩])
 (.ret)))))
theorem st28c : stmOf Tryz.prog 28 p28c = some (s28c, [.cell 4 (some 5), .cell 5 none], 40) := by kernel_rfl
def p48c : Plan := ⟨⟨[], [], [], [((5, 3), [(.t 3)])], [((5, 2), (.t 3))], []⟩, [(5, [0, 1, 2, 3, 4])], [], false⟩
def s48c : Stm :=
 .seq (.ops [⟨.mov (.t 2), some 6, none, true⟩,
 ⟨.eql .iface true (.t 6) (.c .nilif), some 7, none, true⟩])
 (.cond (.t 7)
 (.seq (.ops [⟨.mov (.t 2), some 9, none, true⟩,
 ⟨.typeAssert 88 true .undef (.t 9), some 10, none, false⟩,
 ⟨.mov (.t 10), some 8, none, true⟩,
 ⟨.extract (.t 8) 0, some 11, none, true⟩,
 ⟨.extract (.t 8) 1, some 12, none, true⟩,
 ⟨.alloc [(.int .i64 0)], some 3, none, false⟩,
 ⟨.store 1 (.t 3) (.t 11), none, none, false⟩,
 ⟨.mov (.t 12), some 4, none, true⟩])
 (.seq (.seq (.ops [⟨.mov (.t 4), some 13, none, true⟩,
 ⟨.un .not (.t 13), some 14, none, true⟩])
 (.cond (.t 14)
 (.ops [⟨.mov (.t 2), some 15, none, true⟩,
 ⟨.panic (.t 15), none, none, false⟩])
 (.skip)))
 (.opsD 16 [⟨.build [(.int .i64 0), (.int .i64 0), (.str []), (.int .i64 0), .nilsl] [], some 16, none, true⟩,
 ⟨.fieldAddr 0 (.t 3), some 17, none, true⟩,
 ⟨.loadOf none (.t 17) (.t 3), some 18, none, false⟩,
 ⟨.storeNe 5 (.t 0) (.t 16) [(.t 3)], none, none, false⟩,
 ⟨.store 1 (.t 1) (.t 18), none, none, false⟩])))
 (.skip))
theorem rc48 : recOf Tryz.prog 48 p48c = some (s48c, [], 19, 5, 2) := by kernel_rfl
def dOne : DTab := fun k args u h F => k = 48 ∧ ∃ (a b : Nat) (v : List D) (p : D), args = [.ptr a 1 0, .ptr b 1 0] ∧ v.length = 5 ∧ h.f a = some (.cells v) ∧ h.f b = some (.cells [p]) ∧ ¬ b = a ∧ ¬ a = b ∧
  ((u = none ∧ F none h) ∨ ∃ e, u = some (faultD e) ∧ F none ((h.set a (.cells [.int .i64 0, .int .i64 0, .str [], .int .i64 0, .nilsl])).set b (.cells [.int .i64 e])))
theorem dOne_ok (κ : Kap) (w : World) : dOne.okY Tryz.prog κ w := by
  rintro k args u h F ⟨rfl, a, b, v, p, rfl, hv, ha, hb, n1, n2, hF⟩ κ' w' le
  refine DCallsAt.of_recOf ((Tab.zero_ok Tryz.prog).toY κ' w') rc48 (by simp) ?_
  rcases hF with ⟨rfl, hF⟩ | ⟨e, rfl, hF⟩
  · simp (maxSteps := 1000000) only [s48c, recD, retO_normal, zzK, seval]
    exact ⟨h, AHeap.sub_refl h, hF⟩
  · simp (maxSteps := 1000000) only [s48c, recD, faultD, i_assert, retO_normal, zzK, seval]
    intro i hi
    have ma : ¬ a = i := fun e => by subst e; rw [ha] at hi; cases hi
    have mb : ¬ b = i := fun e => by subst e; rw [hb] at hi; cases hi
    match v, hv with
    | [v0, v1, v2, v3, v4], _ =>
    have ma' : (!a == i) = true := by simp [ma]
    have mb' : (!b == i) = true := by simp [mb]
    simp (maxSteps := 1000000) only [ma, mb, ma', mb', ha, hb, n1, n2, retO_normal, zzK, seval]
    refine ⟨_, fun j o hj => ?_, hF⟩
    simp only [AHeap.set_f] at hj ⊢
    by_cases e : j = i
    · subst e
      have m1 : ¬ j = a := fun e => ma e.symm
      have m2 : ¬ j = b := fun e => mb e.symm
      simp [m1, m2, hi] at hj
    · simpa [e] using hj
def oneF (ks : List Nd) (i : Nat) : CR Nd := match ks[i]? with
  | none => .error 0
  | some x => if (ks.take i).any (fun y => y.sD == x.sD) then .error 120 else declF ks x
def zNode : Nd := .mk 0 0 [] 0 []
def oneR (r : CR Nd) : D := match r with
  | .ok n => .tuple [.agg n.enc, .int .i64 0]
  | .error e => .tuple [.agg zNode.enc, .int .i64 e]
set_option maxHeartbeats 1000000 in
theorem look_c (p : Nd) (i : Nat) (hi : i < p.lD.length) (hp : p.cnt ≤ 400000) : PCall Tryz.prog 28 [.agg p.enc, .int .i64 (i : Int)] (oneR (oneF p.lD i)) := by
  refine ACalls.of_stmD tb50c_ok (dc := dOne) dOne_ok (by kernel_rfl) st28c (by simp) ?_
  rw [vc_todo]
  obtain ⟨pk, pt, ps, pn, ks⟩ := p
  simp only [Nd.lD] at hi ⊢
  have hks : ks.length ≤ 400000 := by rw [cnt_mk] at hp; have := cnts_len ks; omega
  obtain ⟨x, hx⟩ : ∃ x, ks[i]? = some x := ⟨_, List.getElem?_eq_getElem hi⟩
  have hxc : x.cnt ≤ 400000 := by have := cnts_mem_le (List.mem_of_getElem? hx); rw [cnt_mk] at hp; omega
  have hsl := slN_take ks i (by omega)
  have hac : ∀ (K : D → AHeap → Prop) (h : AHeap), askE 5 K h (Nd.encs ks) (i : Int) = K (.eptr x.enc 0) h := fun K h => askE_encs hx
  have hlt : ((ks.take i).length : Nat) = i := by rw [List.length_take]; omega
  rw [enc_mk]
  simp (maxSteps := 1000000) only [s28c, hsl, len_encs, hlt, tb50c_e, zzK, seval]
  intro i1  i2 a2_1 b2_1 i3 a3_2 b3_2 a3_1 b3_1
  simp (maxSteps := 1000000) only [a2_1, b2_1, a3_2, b3_2, a3_1, b3_1, hsl, len_encs, hlt, tb50c_e, zzK, seval]
  intro _
  have hfd : oneF ks i = if (ks.take i).any (fun y => y.sD == x.sD) then .error 120 else declF ks x := by rw [oneF, hx]
  obtain ⟨S, hS⟩ : ∃ S, S = x.sD := ⟨_, rfl⟩
  rw [← hS] at hfd
  refine run_loopD (X := Nat) [⟨.func 48, [.ptr i2 1 0, .ptr i3 1 0], []⟩] (fun j => [(1, .int .i64 (i : Int)), (2, .ptr i1 1 0), (4, .ptr i2 1 0), (5, .ptr i3 1 0), (13, .sl (Nd.encs (ks.take i))), (14, .int .i64 (i : Int)), (15, .int .i64 (j : Int))])
    (fun j => _) (fun j => i - j) (fun j => j ≤ i ∧ (ks.take j).any (fun y => y.sD == S) = false) 0 ⟨Nat.zero_le _, rfl⟩ (by simp only [tb50c_e, zzK, seval]) (AHeap.sub_refl _) ?_
  rintro j Q ⟨j0, j1⟩ hQ
  cases c0c : decide (j < i) with
  | true =>
    have c0c : j < i := by simpa using c0c
    obtain ⟨y, hy⟩ : ∃ y, ks[j]? = some y := ⟨_, List.getElem?_eq_getElem (by omega)⟩
    have hy2 : (ks.take i)[j]? = some y := by rw [List.getElem?_take]; simp [c0c, hy]
    have g : ((j : Int) < (i : Int)) = True := eq_true (by omega)
    have wi : IntKind.i64.wrap ((j : Int) + 1) = ((j + 1 : Nat) : Int) := wrap_succ (by omega)
    have hac2 : ∀ (K : D → AHeap → Prop) (h : AHeap), askE 5 K h (Nd.encs (ks.take i)) (j : Int) = K (.eptr y.enc 0) h := fun K h => askE_encs hy2
    have jn : (ks.take (j + 1)).any (fun y => y.sD == S) = (y.sD == S) := by rw [List.take_add_one, hy, List.any_append, j1]; simp
    have hym : y ∈ ks.take i := List.mem_of_getElem? hy2
    obtain ⟨yk, yt, yx, ym, yl⟩ := y
    obtain ⟨xk, xt, xs, xn, xl⟩ := x
    change S = xs at hS
    subst hS
    simp only [enc_mk] at hac hac2
    simp (maxSteps := 1000000) only [g, hac, hac2, a2_1, b2_1, a3_2, b3_2, a3_1, b3_1, tb50c_e, zzK, seval]
    intro i4 a4_3 b4_3 a4_2 b4_2 a4_1 b4_1
    simp (maxSteps := 1000000) only [a2_1, b2_1, a3_2, b3_2, a3_1, b3_1, a4_3, b4_3, a4_2, b4_2, a4_1, b4_1, hac, tb50c_e, zzK, seval]
    cases c1c : (yx == S) with
    | true =>
      have hany : (ks.take i).any (fun y => y.sD == S) = true := List.any_eq_true.2 ⟨_, hym, c1c⟩
      rw [hany] at hfd
      simp only [if_true] at hfd
      rw [hfd]
      simp (maxSteps := 1000000) only [cNeed, q49c, crP_err, cond_false, Bool.not_true, zzK, seval]
      intro σ hσ hη
      have r4 : σ.env 4 = .ptr i2 1 0 := (hη 4 (by decide)).trans (by simp only [zzK, seval])
      have r5 : σ.env 5 = .ptr i3 1 0 := (hη 5 (by decide)).trans (by simp only [zzK, seval])
      simp only [panD]
      rw [hσ]
      simp only [leav_func, leav_nil, List.nil_append, List.append_nil]
      refine ⟨rfl, i2, i3, [.int .i64 0, .int .i64 0, .str [], .int .i64 0, .nilsl], .int .i64 0, rfl, rfl, (by simp [a2_1, b2_1, a3_2, b3_2, a3_1, b3_1, a4_3, b4_3, a4_2, b4_2, a4_1, b4_1]), (by simp [a2_1, b2_1, a3_2, b3_2, a3_1, b3_1, a4_3, b4_3, a4_2, b4_2, a4_1, b4_1]), a3_2, b3_2, .inr ⟨120, rfl, ?_⟩⟩
      simp (maxSteps := 1000000) only [leav_nil, finD, oneR, zNode, enc_mk, encs_nil, r4, r5, a2_1, b2_1, a3_2, b3_2, a3_1, b3_1, a4_3, b4_3, a4_2, b4_2, a4_1, b4_1, zzK, seval]
      exact .inr ⟨_, AHeap.sub_refl _⟩
    | false =>
      simp (maxSteps := 1000000) only [cNeed, q49c, crP_ok, cond_true, Bool.not_false, wi, a2_1, b2_1, a3_2, b3_2, a3_1, b3_1, a4_3, b4_3, a4_2, b4_2, a4_1, b4_1, tb50c_e, zzK, seval]
      refine hQ (j + 1) _ _ ⟨by omega, by rw [jn]; exact c1c⟩ (by simp only [tb50c_e, zzK, seval]) (sub_fr (by simp [a2_1, b2_1, a3_2, b3_2, a3_1, b3_1, a4_3, b4_3, a4_2, b4_2, a4_1, b4_1])) (by omega)
  | false =>
    have e0 : j = i := by simp at c0c; omega
    have g : ((j : Int) < (i : Int)) = False := eq_false (by omega)
    subst e0
    rw [j1] at hfd
    simp only [Bool.false_eq_true, if_false] at hfd
    rw [hfd]
    simp (maxSteps := 1000000) only [g, hac, a2_1, b2_1, a3_2, b3_2, a3_1, b3_1, tb50c_e, zzK, seval]
    intro i4 a4_3 b4_3 a4_2 b4_2 a4_1 b4_1
    obtain ⟨xk, xt, xs, xn, xl⟩ := x
    simp only [enc_mk] at hac
    simp (maxSteps := 1000000) only [a2_1, b2_1, a3_2, b3_2, a3_1, b3_1, a4_3, b4_3, a4_2, b4_2, a4_1, b4_1, hac, tb50c_e, zzK, seval]
    refine ⟨i4, .mk pk pt ps pn ks, .nilsl, .nilsl, .mk xk xt xs xn xl, by rw [enc_mk], ⟨by simp [cObj_mk], .inl ⟨rfl, rfl⟩, .inl ⟨rfl, rfl⟩, fun _ _ _ _ _ _ _ _ e => by cases e⟩, hxc, ?_⟩
    simp only [Nd.lD]
    have nar : ∀ {ds : List D}, ∀ sz ver xs old, AObj.cells ds ≠ .arow sz ver xs old := fun _ _ _ _ e => by cases e
    cases hd : declF ks (.mk xk xt xs xn xl) with
    | error e =>
      simp only
      intro h' g
      have u2 := g.keep i2 (.cells [.int .i64 0, .int .i64 0, .str [], .int .i64 0, .nilsl]) (by simp [a2_1, b2_1, a3_2, b3_2, a3_1, b3_1, a4_3, b4_3, a4_2, b4_2, a4_1, b4_1]) (by simp [a2_1, b2_1, a3_2, b3_2, a3_1, b3_1, a4_3, b4_3, a4_2, b4_2, a4_1, b4_1]) nar
      have u3 := g.keep i3 (.cells [.int .i64 0]) (by simp [a2_1, b2_1, a3_2, b3_2, a3_1, b3_1, a4_3, b4_3, a4_2, b4_2, a4_1, b4_1]) (by simp [a2_1, b2_1, a3_2, b3_2, a3_1, b3_1, a4_3, b4_3, a4_2, b4_2, a4_1, b4_1]) nar
      simp only [panD, leav_func, leav_nil, List.nil_append, List.append_nil]
      refine ⟨rfl, i2, i3, [.int .i64 0, .int .i64 0, .str [], .int .i64 0, .nilsl], .int .i64 0, rfl, rfl, u2, u3, a3_2, b3_2, .inr ⟨e, rfl, ?_⟩⟩
      simp (maxSteps := 1000000) only [leav_nil, finD, oneR, zNode, enc_mk, encs_nil, a2_1, b2_1, a3_2, b3_2, a3_1, b3_1, a4_3, b4_3, a4_2, b4_2, a4_1, b4_1, zzK, seval]
      exact .inr ⟨_, AHeap.sub_refl _⟩
    | ok y =>
      simp only
      intro h' g
      have u2 := g.keep i2 (.cells [.int .i64 0, .int .i64 0, .str [], .int .i64 0, .nilsl]) (by simp [a2_1, b2_1, a3_2, b3_2, a3_1, b3_1, a4_3, b4_3, a4_2, b4_2, a4_1, b4_1]) (by simp [a2_1, b2_1, a3_2, b3_2, a3_1, b3_1, a4_3, b4_3, a4_2, b4_2, a4_1, b4_1]) nar
      have u3 := g.keep i3 (.cells [.int .i64 0]) (by simp [a2_1, b2_1, a3_2, b3_2, a3_1, b3_1, a4_3, b4_3, a4_2, b4_2, a4_1, b4_1]) (by simp [a2_1, b2_1, a3_2, b3_2, a3_1, b3_1, a4_3, b4_3, a4_2, b4_2, a4_1, b4_1]) nar
      obtain ⟨yk, yt, ys, yn, yl⟩ := y
      simp (maxSteps := 1000000) only [enc_mk, u2, u3, a2_1, b2_1, a3_2, b3_2, a3_1, b3_1, a4_3, b4_3, a4_2, b4_2, a4_1, b4_1, retD_ret, leav_func, leav_nil, tb50c_e, zzK, seval]
      refine ⟨rfl, i2, i3, [.int .i64 yk, .int .i64 yt, .str ys, .int .i64 yn, .sl (Nd.encs yl)], .int .i64 0, rfl, rfl, by simp [a2_1, b2_1, a3_2, b3_2, a3_1, b3_1, a4_3, b4_3, a4_2, b4_2, a4_1, b4_1], by simp [a2_1, b2_1, a3_2, b3_2, a3_1, b3_1, a4_3, b4_3, a4_2, b4_2, a4_1, b4_1], a3_2, b3_2, .inl ⟨rfl, ?_⟩⟩
      simp (maxSteps := 1000000) only [a2_1, b2_1, a3_2, b3_2, a3_1, b3_1, a4_3, b4_3, a4_2, b4_2, a4_1, b4_1, finD, oneR, enc_mk, zzK, seval]
      exact .inr ⟨_, AHeap.sub_refl _⟩
open Classical in
def q28c (args : List D) : Option D := if h : ∃ x : Nd × Nat, args = [.agg x.1.enc, .int .i64 (x.2 : Int)] ∧ x.2 < x.1.lD.length ∧ x.1.cnt ≤ 400000 then some (oneR (oneF (Classical.choose h).1.lD (Classical.choose h).2)) else none
theorem q28c_enc {p : Nd} {i : Nat} (hi : i < p.lD.length) (hp : p.cnt ≤ 400000) : q28c [.agg p.enc, .int .i64 (i : Int)] = some (oneR (oneF p.lD i)) := by
  have h : ∃ x : Nd × Nat, [D.agg p.enc, .int .i64 (i : Int)] = [.agg x.1.enc, .int .i64 (x.2 : Int)] ∧ x.2 < x.1.lD.length ∧ x.1.cnt ≤ 400000 := ⟨(p, i), rfl, hi, hp⟩
  rw [q28c, dif_pos h]
  have e := (Classical.choose_spec h).1
  injection e with e1 e2
  injection e1 with e1
  injection e2 with e2
  injection e2 with _ e2
  rw [← enc_inj _ _ e1, ← Int.ofNat.inj e2]
theorem q28c_ok (args : List D) (d : D) (h : q28c args = some d) : PCall Tryz.prog 28 args d := by
  unfold q28c at h
  split at h
  · rename_i hx
    have e := Classical.choose_spec hx
    cases h
    obtain ⟨⟨p, i⟩, hp⟩ : ∃ x, x = Classical.choose hx := ⟨_, rfl⟩
    rw [← hp] at e ⊢
    obtain ⟨rfl, e1, e2⟩ := e
    exact look_c p i e1 e2
  · cases h
end
end Go.Proofs.YtpagdhbmbnoddaaGreatDoor.Zz
