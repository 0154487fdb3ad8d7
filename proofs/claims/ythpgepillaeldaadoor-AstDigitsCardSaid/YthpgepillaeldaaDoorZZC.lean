/- From what a card lists of package-level variables to what the logic asks of them; the wrap that keeps both what is listed and the world's shape. -/
import Derived.Test.YthpgepillaeldaaDoorZW
import Derived.LaidLaws
import Derived.Deep.DeepLaidRun
import Derived.Handed
import Derived.HandedShaped
import Derived.OpenShut
import Derived.MakeChecks
import Derived.Shelf.Vars
set_option linter.unusedVariables false
set_option linter.unusedSimpArgs false
namespace Go.Proofs.YthpgepillaeldaaDoor.Zz
open Go.RowKit

section
variable {P : Program} {w : World}
theorem laid_get : ∀ {laid : List (String × DataW Unit)} {ps : List MemPlace}, DataW.LaidVars P w laid ps → ∀ {i : Nat} {n : String} {d : DataW Unit}, laid[i]? = some (n, d) →
    ∃ g t cs fuel p, P.globalNamed n = some g ∧ (P.globals[g]?).map (·.type) = some t ∧ w.var? P n = some cs ∧ DataW.trod (fun _ => ()) P w 0 (fun _ => true) false fuel t cs.toList = some (d, p) ∧ ∀ x ∈ MemPlace.row ⟨g, 0, none⟩ cs.size, x ∈ ps
  | [], ps, _, i, n, d, e => by simp at e
  | (m, c) :: r, ps, h, i, n, d, e => by
    obtain ⟨g, t, cs, fuel, p, q, h1, h2, h3, h4, h5, h6⟩ := h
    cases i with
    | zero =>
      cases e
      exact ⟨g, t, cs, fuel, p, h1, h2, h3, h4, fun x hx => by rw [h6]; simp [hx]⟩
    | succ i =>
      obtain ⟨g', t', cs', fuel', p', k1, k2, k3, k4, k5⟩ := laid_get h5 (i := i) (by simpa using e)
      exact ⟨g', t', cs', fuel', p', k1, k2, k3, k4, fun x hx => by rw [h6]; simp [k5 x hx]⟩
/-- An array of whole numbers that is listed. -/
theorem laid_ints {κ : Kap} {laid : List (String × DataW Unit)} (h : laidMet P laid w) {i : Nat} {n : String} {g N : Nat} {t e : TypeId} {k : IntKind} (zs : List Int) (hm : laid[i]? = some (n, .agg (zs.map fun z => .lit (.int k z))))
    (hg : P.globalNamed n = some g) (ht : (P.globals[g]?).map (·.type) = some t) (hu : P.underlying t = some (.array N e)) (he : P.underlying e = some (.int k)) (hc : P.cellsOf t = N) (ce : P.cellsOf e = 1) (h0 : 0 < N) :
    ∃ (cs : Array Value) (ty : TypeId), w.heap[g]? = some (.cells cs ty (0, 0)) ∧ cs.size = zs.length ∧ ∀ (j : Nat) (d : D), (zs.map fun z => D.int k z)[j]? = some d → ∃ v, cs[j]? = some v ∧ Rep κ w v d := by
  obtain ⟨ps, hl, _, hcell⟩ := h
  obtain ⟨g', t', cs, fuel, p, k1, k2, k3, k4, k5⟩ := laid_get hl hm
  rw [hg] at k1
  cases k1
  rw [ht] at k2
  cases k2
  obtain ⟨xs, m, _, hx, hs, hn, hat⟩ := DataW.trod_array hu k4
  rw [ce] at hat
  have hcs : cs.size = N := by simpa [hc] using hs
  have hzx : zs.map (fun z => DataW.lit (H := Unit) (.int k z)) = xs.map (·.1) := by injection hx with h1 h2; injection h1
  have hzl : zs.length = N := by have := congrArg List.length hzx; simp at this; omega
  obtain ⟨c, ty, hh⟩ := (hcell g 0 (k5 _ (by
    simp only [MemPlace.row, List.mem_map, List.mem_range]
    exact ⟨0, by omega, rfl⟩))).1
  have hcc : c = cs := by
    simp only [World.var?, hg, Option.bind_some, hh] at k3
    exact Option.some.inj k3
  subst hcc
  refine ⟨c, ty, hh, by omega, fun j d hd => ?_⟩
  have hj : j < N := by have := (List.getElem?_eq_some_iff.1 hd).1; simp at this; omega
  have g1 := hat j hj
  have e1 : (c.toList.drop (j * 1)).take 1 = [c[j]'(by omega)] := by
    rw [Nat.mul_one, List.drop_eq_getElem_cons (by simp; omega)]
    simp
  rw [e1, List.getElem?_eq_getElem (by omega)] at g1
  obtain ⟨a, e2, e3, _⟩ := DataW.trod_int he g1
  have e4 : c[j]'(by omega) = .int k a := by simpa using e2
  have e5 : zs[j]'(by omega) = a := by
    have := congrArg (fun l : List (DataW Unit) => l[j]?) hzx
    simp only [List.getElem?_map, List.getElem?_eq_getElem (show j < zs.length by omega), List.getElem?_eq_getElem (show j < xs.length by omega), Option.map_some, Option.some.injEq] at this
    rw [e3] at this
    simpa using this
  have e6 : d = .int k a := by
    simp only [List.getElem?_map, List.getElem?_eq_getElem (show j < zs.length by omega), Option.map_some, Option.some.injEq, e5] at hd
    exact hd.symm
  refine ⟨.int k a, by rw [Array.getElem?_eq_getElem (by omega), e4], ?_⟩
  rw [e6]
  exact .int k a
end

section
variable {H : Type} {enc : TypeId × Value → H}
theorem returns_both {a : Assume} {C : Checked} {os : Os} {f : FuncId} {fn : Func} {s : ChangeSpec} {conds : List PathCond} {apart fresh handsOn again : Bool} {X : World → Array Value → Prop}
    (hX : ∀ (w w' : World) (args : Array Value), w.heap = w'.heap → X w args → X w' args)
    (own : ownKnob C.prog.godebug = none) (started : os.Started) (noInit : C.prog.inits.idxOf? f = none) (hfn : C.prog.funcs[f]? = some fn)
    (witness : ∃ (w : World) (tape : Tape) (i : Input), w.os = os ∧ (w.forCall tape i).Shaped C.prog ∧ i.vars = [] ∧ Input.okWide C.prog (w.forCall tape i) .any w.heap.size f i ∧
      ((s.pre enc C.prog fn conds apart (w.forCall tape i).memory i.args ∧ X (w.forCall tape i).memory i.args) ∧ sizedMet enc C.prog fn (OpenSpec.ofChange s) apart (w.forCall tape i).memory i.args) ∧ a.holds C.prog (lone (Frame.enter C.prog f i.args .normal) [] (w.forCall tape i)))
    (contract : ∀ (W : World) (base : Nat) (args : Array Value) (ds gs : List (DataW H)) (before : List MemPlace),
      (∀ (j : Nat) t v, fn.params[j]? = some t → args[j]? = some v → Value.okWide C.prog W .any base t v) →
      DataW.Whole enc C.prog fn.params.toList s.vars apart W args.toList ds gs before →
      conds.all (PathCond.test C.prog ⟨fn.params.toList, ds, s.plain.varTypes C.prog, gs⟩) = true → X W args → W.ShapedOpen C.prog →
      Calls C.prog f args W fun e W' => ∃ v, e = .returned v ∧ s.post enc C.prog fn apart fresh handsOn again W args v W') :
    ReturnsInHanded a C os f .any (fun w args => (s.pre enc C.prog fn conds apart w args ∧ X w args) ∧ sizedMet enc C.prog fn (OpenSpec.ofChange s) apart w args) (s.post enc C.prog fn apart fresh handsOn again) := by
  refine returnsInHanded_of_calls own started noInit witness ?_
  intro w tape i _ hsh _ hok hpre _
  obtain ⟨_, _, _, fn', hfn', _, _, _, _, hval⟩ := hok
  have e : fn' = fn := Option.some.inj (hfn'.symm.trans hfn)
  subst e
  obtain ⟨⟨⟨ds, gs, before, hw, hc⟩, hx⟩, hz⟩ := hpre
  have hw' := DataW.Whole.of_heap (w' := w.forCall tape i) (by rfl) hw
  refine (contract (w.forCall tape i) w.heap.size i.args ds gs before hval hw' hc (hX _ _ _ (by rfl) hx) hsh).mono fun e W' ⟨v, he, hp⟩ => ?_
  subst he
  exact ChangeSpec.post_blind hp
end
/-- The cells of a table of whole numbers. -/
def cellsOf : DataW Unit → List Value
  | .agg xs => xs.flatMap fun
    | .lit (.int k n) => [.int k n]
    | .agg ys => ys.flatMap fun
      | .lit (.int k n) => [.int k n]
      | _ => []
    | _ => []
  | _ => []
/-- A world in which blocks hold these cells. -/
def fillAt (h : Array Obj) : List (Nat × Array Value) → Array Obj
  | [] => h
  | (g, cs) :: r => fillAt (h.modify g fun
      | .cells _ t fz => .cells cs t fz
      | o => o) r
/-- A call of plain data leaves whatever lies there as it was. -/
theorem PCall.toA [Globs] {P : Program} {f : FuncId} {args : List D} {d : D} (hv : PCall P f args d) (h : AHeap) : ACalls P f args h fun o h' => o = .ret d ∧ h' = h := by
  refine ⟨hv.1, fun κ w vs hi hr => ?_⟩
  have sub := AHeap.emp_sub h
  refine (hv.2 κ w vs (hi.sub sub) hr).mono fun e w' ⟨o, h', κ'', a0, a2, a3, a4⟩ => ?_
  subst a0
  obtain ⟨f1, f2, _⟩ := hi.frame sub a3 a4
  have sub2 : h.sub (h'.union (h.minus .emp)) := fun id o ho => by
    obtain ⟨p, hp, _⟩ := hi.obj id o ho
    have := a4.ids id p hp rfl
    simpa [AHeap.union, AHeap.minus, this] using ho
  exact ⟨.ret d, h, κ'', ⟨rfl, rfl⟩, a2, f1.sub sub2, { f2 with own := fun b hb ho => f2.own b hb (ho.sub sub2), ids := fun id p hp hn => hn }⟩
end Go.Proofs.YthpgepillaeldaaDoor.Zz
