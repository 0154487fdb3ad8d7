/- Regions whose order of evaluation is drawn: one order tells them all. -/
import Derived.Test.YtpklkpkfgmoghaaGreatDoorZR
set_option linter.unnecessarySimpa false
set_option linter.unusedVariables false
set_option linter.unusedSimpArgs false
namespace Go.Proofs.YtpklkpkfgmoghaaGreatDoor.Zz
variable {P:Program} {T:bh} {κ:cT} {h:aa} {w:World} {σ:Fr} {n:Nat} {a:Act}
def cf.qR {α:Type}:cf α→List α
  | .cB x=>[x]
  | .pick c a b=>[c,a,b]
  | .alloc ds=>[]
  | .box x=>[x]
  | .build zs ps=>ps.map (·.2.2)
  | .buildSlice sz zs n ps r=>ps.map (·.2)
  | .load n x=>[x]
  | .cQ n x b=>[x,b]
  | .oa f=>[]
  | .store n x v=>[x,v]
  | .storeNe n x v ys=>x::v::ys
  | .nilCheck x=>[x]
  | .bin op x y=>[x,y]
  | .eql t n x y=>[x,y]
  | .un op x=>[x]
  | .conv c x=>[x]
  | .zq n x=>[x]
  | .kA _ x y=>[x,y]
  | .slice k x lo hi mx=>x::(lo.toList++hi.toList++mx.toList)
  | .fieldAddr o x=>[x]
  | .field o n x=>[x]
  | .hU l s x i=>[x,i]
  | .aS s x i=>[x,i]
  | .vM l s n x i=>[x,i]
  | .jS x i=>[x,i]
  | .extract x i=>[x]
  | .nf t x=>[x]
  | .mkFunc fn a b=>a++b
  | .len k x=>[x]
  | .tl k x=>[x]
  | .qN m x y=>[x,y]
  | .append sz b t s x=>[s,x]
  | .makeSlice sz b zs l c=>[l,c]
  | .call f as=>f::as
  | .callR f as=>f::as
  | .callNe f as ys=>f::(as++ys)
  | .appendA sz b t s x ys=>s::x::ys
  | .lA n x v=>[x,v]
  | .j6 n x v=>[x,v]
  | .qcall f as=>f::as
  | .panic x=>[x]
  | .defer f as=>f::as
  | .typeAssert t ok z x=>[x]
  | .makeMap=>[]
  | .lookup z ok m k=>[m,k]
  | .mapUpdate m k v=>[m,k,v]
  | .delete m k=>[m,k]
  | .isNil n x=>[x]
  | .pH x=>[x]
  | .sX x=>[x]
theorem cf.map_congr {α β:Type} {f g:α→β} {i:cf α} (e:∀x∈i.qR,f x=g x):i.map f=i.map g:=by
  cases i<;>simp only [cf.qR,cf.map] at e ⊢
  case build zs ps=>congr 1; exact List.map_congr_left fun p hp=>by rw [e p.2.2 (List.mem_map.2 ⟨p,hp,rfl⟩)]
  case buildSlice sz zs n ps r=>congr 1; exact List.map_congr_left fun p hp=>by rw [e p.2 (List.mem_map.2 ⟨p,hp,rfl⟩)]
  case slice k x lo hi mx=>
    rw [e x (by simp)]
    congr 1
    · cases lo with
      | none=>rfl
      | some z=>simp only [Option.map_some]; rw [e z (by simp)]
    · cases hi with
      | none=>rfl
      | some z=>simp only [Option.map_some]; rw [e z (by simp)]
    · cases mx with
      | none=>rfl
      | some z=>simp only [Option.map_some]; rw [e z (by simp)]
  case mkFunc fn a b=>congr 1<;>exact List.map_congr_left fun p hp=>e p (by simp [hp])
  case storeNe n x v ys=>rw [e x (by simp),e v (by simp)]; congr 1; exact List.map_congr_left fun p hp=>e p (by simp [hp])
  case call f as=>rw [e f (by simp)]; congr 1; exact List.map_congr_left fun p hp=>e p (by simp [hp])
  case callR f as=>rw [e f (by simp)]; congr 1; exact List.map_congr_left fun p hp=>e p (by simp [hp])
  case appendA sz b t s x ys=>rw [e s (by simp),e x (by simp)]; congr 1; exact List.map_congr_left fun p hp=>e p (by simp [hp])
  case callNe f as ys=>rw [e f (by simp)]; congr 1<;>exact List.map_congr_left fun p hp=>e p (by simp [hp])
  case qcall f as=>rw [e f (by simp)]; congr 1; exact List.map_congr_left fun p hp=>e p (by simp [hp])
  case defer f as=>rw [e f (by simp)]; congr 1; exact List.map_congr_left fun p hp=>e p (by simp [hp])
  all_goals simp_all
def fw.looks (o:fw):List Nat:=
  (o.i.qR.filterMap fun | .t n=>some n | _=>none)++(match o.g with | some (t,_)=>[t] | none=>[])
def fw.apart (x y:fw):Bool:=
  (match x.d with
   | some t=> !(y.looks.contains t) && !(y.d==some t)
   | none=>true) &&
  (match y.d with
   | some t=> !(x.looks.contains t)
   | none=>true)
theorem fw.apart_spec {x y:fw} (e:x.apart y=true):(∀t,x.d=some t→t ∉ y.looks)∧(∀t,x.d=some t→y.d≠some t)∧(∀t,y.d=some t→t ∉ x.looks):=by
  refine ⟨fun t ht=>?_,fun t ht=>?_,fun t ht=>?_⟩<;>simp [fw.apart,ht] at e
  · exact e.1.1
  · exact e.1.2
  · exact e.2
theorem N0 {o:fw} {K E:D→aa→Prop} {dst:Option Nat} {d:D} (hl:∀t,dst=some t→t ∉ o.looks):mJ T o K E (σ.put dst d) h↔mJ T o K E σ h:=by
  cases dst with
  | none=>rfl
  | some t=>
    have pf:=hl t rfl
    have e1:o.i.map (σ.put (some t) d).ev=o.i.map σ.ev:=cf.map_congr fun x hx=>by
      cases x with
      | t j=>
        have:j≠t:=fun e=>pf (by subst e; exact List.mem_append_left _ (List.mem_filterMap.2 ⟨_,hx,rfl⟩))
        simp [Fr.ev,this]
      | _=>rfl
    unfold mJ
    cases hg:o.g with
    | none=>simp only [e1]
    | some tw=>
      obtain ⟨t',want⟩:=tw
      have:t'≠t:=fun e=>pf (by subst e; simp [fw.looks,hg])
      simp only [e1,Fr.qY,this,if_false]
theorem put_comm {x y:Option Nat} {d e:D} (iy:∀t,x=some t→y≠some t):(σ.put x d).put y e=(σ.put y e).put x d:=by
  cases x with
  | none=>rfl
  | some t=>
    cases y with
    | none=>rfl
    | some u=>
      have:t≠u:=fun e=>iy t rfl (by rw [e])
      refine Fr.ext (fun i=>?_) rfl
      simp only [Fr.qY]
      by_cases h1:i=u<;>by_cases h2:i=t<;>simp_all
def fw.kind (o:fw):Nat:=
  match o.p with
  | true=>0
  | false=>match o.i with
    | .load .. | .cQ .. | .slice .. | .aS .. =>1
    | .conv .eX _=>1
    | .qcall .. =>2
    | .alloc .. =>3
    | .box .. =>4
    | .storeNe .. =>6
    | .oa _=>7
    | .callNe .. =>8
    | .appendA .. =>9
    | .buildSlice _ _ _ _ true=>10
    | _=>5
def aew:cf iC→cf iC→Bool
  | .load _ (.t m),.storeNe _ _ _ ys | .cQ _ _ (.t m),.storeNe _ _ _ ys=>ys.any fun | .t k=>m==k | _=>false
  | _,_=>false
def adK:cf iC→cf iC→Bool
  | .load _ (.t m),.callNe _ _ ys | .cQ _ _ (.t m),.callNe _ _ ys=>ys.any fun | .t k=>m==k | _=>false
  | _,_=>false
def adl:cf iC→cf iC→Bool
  | .load _ (.t m),.appendA _ _ _ _ _ ys | .cQ _ _ (.t m),.appendA _ _ _ _ _ ys=>ys.any fun | .t k=>m==k | _=>false
  | _,_=>false
def WO (x y:fw):Bool:=
  match x.kind,y.kind with
  | 0,_=>true
  | 1,0 | 1,1 | 1,2 | 1,3 | 1,4 | 1,7=>true
  | 2,3=>y.g.isNone
  | 1,6=>aew x.i y.i
  | 1,8=>adK x.i y.i
  | 1,9=>adl x.i y.i
  | 1,10=>true
  | _,_=>false
def tG (h:aa):cf D→Option D
  | .load n x=>fj h n x
  | .cQ n x b=>if fy x b=true then fj h n x else none
  | .conv c x=>dB h (.conv c x)
  | .slice k x lo hi mx=>match x with
    | .row .. =>dB h (.slice k x lo hi mx)
    | _=>bC (.slice k x lo hi mx)
  | .aS sz x i=>match x with
    | .row .. =>dB h (.aS sz x i)
    | _=>bC (.aS sz x i)
  | _=>none
def fw.val (o:fw) (σ:Fr) (h:aa):Option D:=
  match o.p with
  | true=>ew (o.i.map σ.ev)
  | false=>tG h (o.i.map σ.ev)
def fw.qb (o:fw) (σ:Fr) (h:aa):Option D:=
  match o.g with
  | none=>o.val σ h
  | some (t,want)=>match σ.env t with
    | .bool b=>if b=want then o.val σ h else some (.tuple [])
    | .tuple []=>some (.tuple [])
    | _=>none
theorem F8 {o:fw} (hk:o.kind≤1) {K E:D→aa→Prop}:tH T o.p (o.i.map σ.ev) h K E↔∃d,o.val σ h=some d∧K d h:=by
  unfold fw.val tH
  cases hp:o.p with
  | true=>rfl
  | false=>
    simp only
    unfold fw.kind at hk
    rw [hp] at hk
    simp only at hk
    split at hk
    · rename_i e; rw [e]; rfl
    · rename_i e; rw [e]; rfl
    · rename_i x lo hi mx e; rw [e]; simp only [cf.map,eV,tG]; generalize σ.ev x=dx; cases dx<;>rfl
    · rename_i x i e; rw [e]; simp only [cf.map,eV,tG]; generalize σ.ev x=dx; cases dx<;>rfl
    · rename_i e; rw [e]; rfl
    all_goals omega
theorem gi {o:fw} (hk:o.kind≤1) {K E:D→aa→Prop}:mJ T o K E σ h↔∃d,o.qb σ h=some d∧K d h:=by
  unfold mJ fw.qb
  cases hg:o.g with
  | none=>exact F8 hk
  | some tw=>
    obtain ⟨t,want⟩:=tw
    simp only
    generalize σ.env t=dt
    cases dt with
    | bool b=>
      simp only
      by_cases e:b=want
      · rw [if_pos e]
        constructor
        · intro hv; exact (F8 hk).1 (hv.1 e)
        · intro hv
          refine ⟨fun _=>(F8 hk).2 hv,fun e'=>?_⟩
          rw [e] at e'
          cases want<;>cases e'
      · rw [if_neg e]
        have e':b= !want:=by cases b<;>cases want<;>first | rfl | exact absurd rfl e
        constructor
        · intro hv; exact ⟨_,rfl,hv.2 e'⟩
        · rintro ⟨d,h1,h2⟩
          cases h1
          exact ⟨fun x=>absurd x e,fun _=>h2⟩
    | tuple ds=>
      cases ds with
      | nil=>
        constructor
        · intro hv; exact ⟨_,rfl,hv⟩
        · rintro ⟨d,h1,h2⟩; cases h1; exact h2
      | cons d ds=>
        constructor
        · intro hv; exact hv.elim
        · rintro ⟨d,h1,h2⟩; cases h1
    | _=>
      constructor
      · intro hv; exact hv.elim
      · rintro ⟨d,h1,h2⟩; cases h1
def n8 (h h':aa):Prop:=∀id o,h.f id=some o→h'.f id=some o∨∃sz aY xs fz Ny,o=.row sz aY xs fz∧h'.f id=some (.row sz aY xs Ny)
theorem n8.set {id:Nat} {o:cJ} (hid:h.f id=none):n8 h (h.set id o):=fun i oi e=>.inl (by
  have:i≠id:=fun x=>by subst x; rw [hid] at e; cases e
  simp [this,e])
theorem n8.fQ (ds:List D):n8 h (fQ h ds):=fun id o e=>by
  rw [rV]
  have:=ee.U9 h (ds.flatMap jD) id
  cases o with
  | row sz aY xs fz=>obtain ⟨Ny,h1,_⟩:=this.1 sz aY xs fz e; exact .inr ⟨sz,aY,xs,fz,Ny,rfl,h1⟩
  | _=>exact .inl (by rw [this.2 (by simp [e]),e])
theorem n8.aeq {d:D} (ds:List D):n8 h (gO d h (Go.Proofs.YtpklkpkfgmoghaaGreatDoor.Zz.fQ h ds)):=by
  unfold gO
  cases scalar d with
  | true=>exact fun id o e=>n8.fQ [] id o e
  | false=>exact n8.fQ ds
theorem AD {h':aa} (s:n8 h h') {k:Option Nat} {x d:D} (e:fj h k x=some d):fj h' k x=some d:=by
  unfold fj at*
  split at e
  · split at e
    · rename_i o ho
      rcases s _ _ ho with h1 | ⟨_,_,_,_,_,h1,_⟩
      · simp only [h1]; exact e
      · cases h1
    · cases e
  · exact e
  · split at e
    · rename_i o ho
      rcases s _ _ ho with h1 | ⟨_,_,_,_,_,h1,h2⟩
      · simp only [h1]; exact e
      · cases h1; simp only [h2]; exact e
    · rename_i o ho
      rcases s _ _ ho with h1 | ⟨_,_,_,_,_,h1,h2⟩
      · simp only [h1]; exact e
      · cases h1
    · cases e
  · cases e
theorem Fb {h':aa} (s:n8 h h') {x:D} {xs:List (List D)} (e:dH h x=some xs):dH h' x=some xs:=by
  unfold dH at*
  split at e
  · exact e
  · exact e
  · split at e
    · rename_i o ho
      rcases s _ _ ho with h1 | ⟨_,_,_,_,_,h1,h2⟩
      · simp only [h1]; exact e
      · cases h1; simp only [h2]; exact e
    · cases e
  · split at e
    · rename_i o ho
      rcases s _ _ ho with h1 | ⟨_,_,_,_,_,h1,_⟩
      · simp only [h1]; exact e
      · cases h1
    · cases e
  · cases e
theorem TE {h':aa} (s:n8 h h') {i:cf D} {d:D} (e:tG h i=some d):tG h' i=some d:=by
  have row:∀{r:Nat} {f:Option cJ→Option D},(∀o,f (some o)≠none→∃sz aY xs fz,o=.row sz aY xs fz)→f none=none→(∀sz aY xs fz Ny,f (some (.row sz aY xs fz))=f (some (.row sz aY xs Ny)))→f (h.f r)=some d→f (h'.f r)=some d:=fun {r f} h1 h2 h3 h4=>by
    cases ho:h.f r with
    | none=>rw [ho,h2] at h4; cases h4
    | some o=>
      rw [ho] at h4
      obtain ⟨sz,aY,xs,fz,rfl⟩:=h1 o (by rw [h4]; simp)
      rcases s _ _ ho with g | ⟨_,_,_,_,Ny,g1,g2⟩
      · rw [g]; exact h4
      · cases g1; rw [g2,←h3 _ _ _ fz]; exact h4
  cases i with
  | load n x=>exact AD s e
  | cQ n x b=>
    simp only [tG] at e ⊢
    split at e
    · rename_i hs; rw [if_pos hs]; exact AD s e
    · cases e
  | conv c x=>
    simp only [tG,dB] at e ⊢
    cases c<;>first | (cases e; done) | skip
    simp only at e ⊢
    split at e
    · rename_i xs hx
      simp only [Fb s hx]
      exact e
    · cases e
  | slice k x lo hi mx=>
    simp only [tG] at e ⊢
    cases x<;>first | exact e | skip
    rename_i r aY off len
    simp only [dB] at e ⊢
    cases k<;>cases mx<;>first | (cases e; done) | skip
    rename_i sz
    simp only at e ⊢
    exact row (f:=fun o=>match o with | some (.row jy cC xs fz)=>if jy=sz∧cC=aY then (bounds len lo hi).map fun b=>.row r aY (off+b.1) (b.2 - b.1) else none | _=>none) (fun o ho=>by cases o<;>first | exact ⟨_,_,_,_,rfl⟩ | exact absurd rfl ho) rfl (fun _ _ _ _ _=>rfl) e
  | aS sz x i=>
    simp only [tG] at e ⊢
    cases x<;>first | exact e | skip
    rename_i r aY off len
    simp only [dB] at e ⊢
    cases i<;>first | (cases e; done) | skip
    rename_i kk i
    simp only at e ⊢
    split at e
    · rename_i o ho
      rcases s _ _ ho with h1 | ⟨_,_,_,_,_,h1,h2⟩
      · simp only [h1]; exact e
      · cases h1; simp only [h2]; exact e
    · rename_i o ho
      rcases s _ _ ho with h1 | ⟨_,_,_,_,_,h1,h2⟩
      · simp only [h1]; exact e
      · cases h1
    · cases e
  | _=>cases e
theorem Ta {h':aa} (s:n8 h h') {o:fw} {d:D} (e:o.qb σ h=some d):o.qb σ h'=some d:=by
  have v:∀{d},o.val σ h=some d→o.val σ h'=some d:=fun e=>by
    unfold fw.val at*
    cases hp:o.p with
    | true=>simp only [hp] at e ⊢; exact e
    | false=>simp only [hp] at e ⊢; exact TE s e
  unfold fw.qb at*
  cases hg:o.g with
  | none=>simp only [hg] at e ⊢; exact v e
  | some tw=>
    obtain ⟨t,want⟩:=tw
    simp only [hg] at e ⊢
    generalize σ.env t=dt at e ⊢
    cases dt with
    | bool b=>
      simp only at e ⊢
      by_cases eb:b=want
      · rw [if_pos eb] at e ⊢; exact v e
      · rw [if_neg eb] at e ⊢; exact e
    | tuple ds=>cases ds<;>exact e
    | _=>cases e
theorem VW {o:fw} (hk:o.kind=2∨o.kind=3∨o.kind=4∨o.kind=7∨o.kind=10) {K E E':D→aa→Prop} (hv:mJ T o K E σ h):mJ T o (fun d h'=>n8 h h'∧K d h') E' σ h:=by
  have refl:n8 h h:=fun id o e=>.inl e
  have v:tH T o.p (o.i.map σ.ev) h K E→tH T o.p (o.i.map σ.ev) h (fun d h'=>n8 h h'∧K d h') E':=fun hv=>by
    unfold fw.kind at hk
    cases hp:o.p with
    | true=>rw [hp] at hk; simp at hk
    | false=>
      rw [hp] at hk hv
      simp only at hk
      simp only [tH] at hv ⊢
      split at hk
      all_goals first
        | (exfalso; omega)
        | skip
      · rename_i e
        rw [e] at hv ⊢
        simp only [cf.map,eV] at hv ⊢
        split at hv
        · obtain ⟨d,e,x⟩:=hv; exact ⟨d,e,n8.aeq _,x⟩
        · exact hv.elim
      · rename_i e
        rw [e] at hv ⊢
        exact fun id hid=>⟨n8.set hid,hv id hid⟩
      · rename_i e
        rw [e] at hv ⊢
        exact ⟨hv.1,fun id hid=>⟨n8.set hid,hv.2 id hid⟩⟩
      · rename_i e
        rw [e] at hv ⊢
        obtain ⟨ds,q1,q2⟩:=hv
        exact ⟨ds,q1,fun id hid=>⟨n8.set hid,q2 id hid⟩⟩
      · rename_i e
        rw [e] at hv ⊢
        obtain ⟨xs,q1,q2⟩:=hv
        exact ⟨xs,q1,fun id hid=>⟨n8.set hid,q2 id hid⟩⟩
  unfold mJ at*
  cases hg:o.g with
  | none=>simp only [hg] at hv ⊢; exact v hv
  | some tw=>
    obtain ⟨t,want⟩:=tw
    simp only [hg] at hv ⊢
    split at hv
    · exact ⟨fun e=>v (hv.1 e),fun e=>⟨refl,hv.2 e⟩⟩
    · exact ⟨refl,hv⟩
    · exact hv.elim
theorem L9 {x y b:D} (h1:iS x b=true) (h2:fy y b=true):iS x y=true:=by
  unfold fy at h2
  split at h2
  all_goals first
    | (cases h2; done)
    | (cases x<;>rfl)
    | (simp only [beq_iff_eq] at h2
       subst h2
       cases x<;>first | exact h1 | (simp [iS] at h1; done))
theorem Dt {h h':aa} {n:Nat} {x0 v y0 d:D} {k:Option Nat} (Vo:iS x0 y0=true) (qc:gT h n x0 v=some h') (hd:fj h k y0=some d):fj h' k y0=some d:=by
  unfold gT at qc
  split at qc
  · have set:∀(i:Nat) (o:cJ),(∀j w f,y0=.ptr j w f→j≠i)→(∀j w q f,y0=.fT j w q f→j≠i)→fj (h.set i o) k y0=some d:=fun i o q1 q2=>by
      cases y0 with
      | ptr j w f=>simp only [fj,aa.b9,if_neg (q1 j w f rfl)] at hd ⊢; exact hd
      | fT j w q f=>simp only [fj,aa.b9,if_neg (q2 j w q f rfl)] at hd ⊢; exact hd
      | cO=>exact hd
      | _=>simp [fj] at hd
    split at qc
    · split at qc
      · split at qc
        · cases qc
          refine set _ _ (fun j w f e=>?_) (fun j w q f e=>?_)
          · subst e; simp [iS] at Vo; exact fun e=>Vo e.symm
          · subst e; simp [iS] at Vo; exact fun e=>Vo e.symm
        · cases qc
      · cases qc
    · split at qc
      · split at qc
        · split at qc
          · split at qc
            · cases qc
              refine set _ _ (fun j w f e=>?_) (fun j w q f e=>?_)
              · subst e; simp [iS] at Vo; exact fun e=>Vo e.symm
              · subst e; simp [iS] at Vo; exact fun e=>Vo e.symm
            · cases qc
          · cases qc
        · cases qc
      · cases qc
    · cases qc
  · cases qc
theorem rZ {h h':aa} {x:D} {k:Option Nat} (hk:iz h h' x):fj h' k x=fj h k x:=by
  cases x<;>first | exact hk.elim | rfl | (simp only [iz] at hk; simp only [fj,hk])
theorem Dp {h h':aa} {x b:D} (hk:iz h h' b) (hs:fy x b=true):iz h h' x:=by
  unfold fy at hs
  split at hs
  all_goals first
    | (cases hs; done)
    | trivial
    | (simp only [beq_iff_eq] at hs
       subst hs
       exact hk)
theorem VX {x y:fw} (hs:WO x y=true) {K:D→D→aa→Prop} {E:D→aa→Prop} (hv:mJ T x (fun d h1=>mJ T y (fun e h2=>K d e h2) E σ h1) E σ h):
    mJ T y (fun e h1=>mJ T x (fun d h2=>K d e h2) E σ h1) E σ h:=by
  unfold WO at hs
  have hk0:x.kind=0→mJ T y (fun e h1=>mJ T x (fun d h2=>K d e h2) E σ h1) E σ h:=fun hx=>by
    obtain ⟨d,h1,h2⟩:=(gi (by omega)).1 hv
    refine jq (fun e h' k=>(gi (by omega)).2 ⟨d,?_,k⟩) (fun _ _ k=>k) h2
    have hp:x.p=true:=by
      unfold fw.kind at hx
      cases hp:x.p with
      | true=>rfl
      | false=>rw [hp] at hx; simp only at hx; split at hx<;>omega
    unfold fw.qb fw.val at*
    rw [hp] at h1 ⊢
    exact h1
  have hk1:x.kind=1→y.kind=2∨y.kind=3∨y.kind=4∨y.kind=7∨y.kind=10→mJ T y (fun e h1=>mJ T x (fun d h2=>K d e h2) E σ h1) E σ h:=fun hx hy=>by
    obtain ⟨d,h1,h2⟩:=(gi (by omega)).1 hv
    exact jq (fun e h' ⟨s,k⟩=>(gi (by omega)).2 ⟨d,Ta s h1,k⟩) (fun _ _ k=>k) (VW (E':=E) hy h2)
  have alF:x.kind=1→y.kind=6→aew x.i y.i=true→mJ T y (fun e h1=>mJ T x (fun d h2=>K d e h2) E σ h1) E σ h:=fun hx hy iy=>by
    obtain ⟨d,h1,h2⟩:=(gi (by omega)).1 hv
    have hxi:∃k m c,(x.i=.load k (.t m)∧c=iC.t m∨x.i=.cQ k c (.t m))∧∃n a v ys,y.i=.storeNe n a v ys∧iC.t m∈ys:=by
      unfold aew at iy
      split at iy
      · rename_i k m n a v ys e1 e2
        refine ⟨k,m,_,.inl ⟨e1,rfl⟩,n,a,v,ys,e2,?_⟩
        obtain ⟨z,hz,Av⟩:=List.any_eq_true.1 iy
        cases z with
        | t j=>simp at Av; subst Av; exact hz
        | _=>simp at Av
      · rename_i k c m n a v ys e1 e2
        refine ⟨k,m,c,.inr e1,n,a,v,ys,e2,?_⟩
        obtain ⟨z,hz,Av⟩:=List.any_eq_true.1 iy
        cases z with
        | t j=>simp at Av; subst Av; exact hz
        | _=>simp at Av
      · cases iy
    obtain ⟨k,m,c,e1,n,a,v,ys,e2,th⟩:=hxi
    have hyp:y.p=false:=by
      unfold fw.kind at hy
      cases hp:y.p with
      | true=>rw [hp] at hy; simp at hy
      | false=>rfl
    have YG:x.p=false:=by
      unfold fw.kind at hx
      cases hp:x.p with
      | true=>rw [hp] at hx; simp at hx
      | false=>rfl
    have fM:∀h',iS (σ.ev a) (σ.env m)=true→gT h n (σ.ev a) (σ.ev v)=some h'→x.qb σ h'=some d:=fun h' Vo qc=>by
      have vK:∀d,x.val σ h=some d→x.val σ h'=some d:=fun d hd=>by
        unfold fw.val at*
        rcases e1 with ⟨e1,_⟩ | e1
        · rw [YG,e1] at hd ⊢
          simp only [cf.map,tG,Fr.ev] at hd ⊢
          exact Dt Vo qc hd
        · rw [YG,e1] at hd ⊢
          simp only [cf.map,tG] at hd ⊢
          split at hd
          · rename_i sP
            rw [if_pos sP]
            exact Dt (L9 Vo sP) qc hd
          · cases hd
      unfold fw.qb at*
      cases hg:x.g with
      | none=>rw [hg] at h1; exact vK _ h1
      | some tw=>
        obtain ⟨t,want⟩:=tw
        rw [hg] at h1
        simp only at h1 ⊢
        generalize σ.env t=dt at h1 ⊢
        cases dt with
        | bool b=>
          simp only at h1 ⊢
          by_cases eb:b=want
          · rw [if_pos eb] at h1 ⊢; exact vK _ h1
          · rw [if_neg eb] at h1 ⊢; exact h1
        | tuple ds=>cases ds<;>exact h1
        | _=>cases h1
    have HK:∀(K:D→aa→Prop),tH T y.p (y.i.map σ.ev) h K E→tH T y.p (y.i.map σ.ev) h (fun e h'=>x.qb σ h'=some d∧K e h') E:=fun K hh=>by
      rw [hyp,e2] at hh ⊢
      obtain ⟨q1,h',q2,q3⟩:=hh
      refine ⟨q1,h',q2,fM h' ?_ q2,q3⟩
      exact List.all_eq_true.1 q1 _ (List.mem_map.2 ⟨_,th,rfl⟩)
    have h3:mJ T y (fun e h'=>x.qb σ h'=some d∧K d e h') E σ h:=by
      unfold mJ at h2 ⊢
      cases hg:y.g with
      | none=>rw [hg] at h2; exact HK _ h2
      | some tw=>
        obtain ⟨t,want⟩:=tw
        rw [hg] at h2
        simp only at h2 ⊢
        split at h2
        · exact ⟨fun e=>HK _ (h2.1 e),fun e=>⟨h1,h2.2 e⟩⟩
        · exact ⟨h1,h2⟩
        · exact h2.elim
    exact jq (fun e h' ⟨s,k⟩=>(gi (by omega)).2 ⟨d,s,k⟩) (fun _ _ k=>k) h3
  have alG:x.kind=1→y.kind=8→adK x.i y.i=true→mJ T y (fun e h1=>mJ T x (fun d h2=>K d e h2) E σ h1) E σ h:=fun hx hy iy=>by
    obtain ⟨d,h1,h2⟩:=(gi (by omega)).1 hv
    have hxi:∃k m c,(x.i=.load k (.t m)∧c=iC.t m∨x.i=.cQ k c (.t m))∧∃f as ys,y.i=.callNe f as ys∧iC.t m∈ys:=by
      unfold adK at iy
      split at iy
      · rename_i k m f as ys e1 e2
        refine ⟨k,m,_,.inl ⟨e1,rfl⟩,f,as,ys,e2,?_⟩
        obtain ⟨z,hz,Av⟩:=List.any_eq_true.1 iy
        cases z with
        | t j=>simp at Av; subst Av; exact hz
        | _=>simp at Av
      · rename_i k c m f as ys e1 e2
        refine ⟨k,m,c,.inr e1,f,as,ys,e2,?_⟩
        obtain ⟨z,hz,Av⟩:=List.any_eq_true.1 iy
        cases z with
        | t j=>simp at Av; subst Av; exact hz
        | _=>simp at Av
      · cases iy
    obtain ⟨k,m,c,e1,f,as,ys,e2,th⟩:=hxi
    have hyp:y.p=false:=by
      unfold fw.kind at hy
      cases hp:y.p with
      | true=>rw [hp] at hy; simp at hy
      | false=>rfl
    have YG:x.p=false:=by
      unfold fw.kind at hx
      cases hp:x.p with
      | true=>rw [hp] at hx; simp at hx
      | false=>rfl
    have fM:∀h',iz h h' (σ.env m)→x.qb σ h'=some d:=fun h' hkp=>by
      have vK:∀d,x.val σ h=some d→x.val σ h'=some d:=fun d hd=>by
        unfold fw.val at*
        rcases e1 with ⟨e1,_⟩ | e1
        · rw [YG,e1] at hd ⊢
          simp only [cf.map,tG,Fr.ev] at hd ⊢
          exact (rZ hkp).trans hd
        · rw [YG,e1] at hd ⊢
          simp only [cf.map,tG] at hd ⊢
          split at hd
          · rename_i sP
            rw [if_pos sP]
            exact (rZ (Dp hkp sP)).trans hd
          · cases hd
      unfold fw.qb at*
      cases hg:x.g with
      | none=>rw [hg] at h1; exact vK _ h1
      | some tw=>
        obtain ⟨t,want⟩:=tw
        rw [hg] at h1
        simp only at h1 ⊢
        generalize σ.env t=dt at h1 ⊢
        cases dt with
        | bool b=>
          simp only at h1 ⊢
          by_cases eb:b=want
          · rw [if_pos eb] at h1 ⊢; exact vK _ h1
          · rw [if_neg eb] at h1 ⊢; exact h1
        | tuple ds=>cases ds<;>exact h1
        | _=>cases h1
    have HK:∀(K:D→aa→Prop),tH T y.p (y.i.map σ.ev) h K E→tH T y.p (y.i.map σ.ev) h (fun e h'=>x.qb σ h'=some d∧K e h') E:=fun K hh=>by
      rw [hyp,e2] at hh ⊢
      simp only [tH,cf.map,eV] at hh ⊢
      split at hh
      · exact T.mono _ _ _ _ _ _ _ (fun e h' k=>⟨k.1,fM h' (k.1 _ (List.mem_map.2 ⟨_,th,rfl⟩)),k.2⟩) (fun _ _ k=>k) hh
      · exact hh.elim
    have h3:mJ T y (fun e h'=>x.qb σ h'=some d∧K d e h') E σ h:=by
      unfold mJ at h2 ⊢
      cases hg:y.g with
      | none=>rw [hg] at h2; exact HK _ h2
      | some tw=>
        obtain ⟨t,want⟩:=tw
        rw [hg] at h2
        simp only at h2 ⊢
        split at h2
        · exact ⟨fun e=>HK _ (h2.1 e),fun e=>⟨h1,h2.2 e⟩⟩
        · exact ⟨h1,h2⟩
        · exact h2.elim
    exact jq (fun e h' ⟨s,k⟩=>(gi (by omega)).2 ⟨d,s,k⟩) (fun _ _ k=>k) h3
  have alH:x.kind=1→y.kind=9→adl x.i y.i=true→mJ T y (fun e h1=>mJ T x (fun d h2=>K d e h2) E σ h1) E σ h:=fun hx hy iy=>by
    obtain ⟨d,h1,h2⟩:=(gi (by omega)).1 hv
    have hxi:∃k m c,(x.i=.load k (.t m)∧c=iC.t m∨x.i=.cQ k c (.t m))∧∃sz lu st s0 x0 ys,y.i=.appendA sz lu st s0 x0 ys∧iC.t m∈ys:=by
      unfold adl at iy
      split at iy
      · rename_i k m sz lu st s0 x0 ys e1 e2
        refine ⟨k,m,_,.inl ⟨e1,rfl⟩,sz,lu,st,s0,x0,ys,e2,?_⟩
        obtain ⟨z,hz,Av⟩:=List.any_eq_true.1 iy
        cases z with
        | t j=>simp at Av; subst Av; exact hz
        | _=>simp at Av
      · rename_i k c m sz lu st s0 x0 ys e1 e2
        refine ⟨k,m,c,.inr e1,sz,lu,st,s0,x0,ys,e2,?_⟩
        obtain ⟨z,hz,Av⟩:=List.any_eq_true.1 iy
        cases z with
        | t j=>simp at Av; subst Av; exact hz
        | _=>simp at Av
      · cases iy
    obtain ⟨k,m,c,e1,sz,lu,st,s0,x0,ys,e2,th⟩:=hxi
    have hyp:y.p=false:=by
      unfold fw.kind at hy
      cases hp:y.p with
      | true=>rw [hp] at hy; simp at hy
      | false=>rfl
    have YG:x.p=false:=by
      unfold fw.kind at hx
      cases hp:x.p with
      | true=>rw [hp] at hx; simp at hx
      | false=>rfl
    have fM:∀h',iz h h' (σ.env m)→x.qb σ h'=some d:=fun h' hkp=>by
      have vK:∀d,x.val σ h=some d→x.val σ h'=some d:=fun d hd=>by
        unfold fw.val at*
        rcases e1 with ⟨e1,_⟩ | e1
        · rw [YG,e1] at hd ⊢
          simp only [cf.map,tG,Fr.ev] at hd ⊢
          exact (rZ hkp).trans hd
        · rw [YG,e1] at hd ⊢
          simp only [cf.map,tG] at hd ⊢
          split at hd
          · rename_i sP
            rw [if_pos sP]
            exact (rZ (Dp hkp sP)).trans hd
          · cases hd
      unfold fw.qb at*
      cases hg:x.g with
      | none=>rw [hg] at h1; exact vK _ h1
      | some tw=>
        obtain ⟨t,want⟩:=tw
        rw [hg] at h1
        simp only at h1 ⊢
        generalize σ.env t=dt at h1 ⊢
        cases dt with
        | bool b=>
          simp only at h1 ⊢
          by_cases eb:b=want
          · rw [if_pos eb] at h1 ⊢; exact vK _ h1
          · rw [if_neg eb] at h1 ⊢; exact h1
        | tuple ds=>cases ds<;>exact h1
        | _=>cases h1
    have HK:∀(K:D→aa→Prop),tH T y.p (y.i.map σ.ev) h K E→tH T y.p (y.i.map σ.ev) h (fun e h'=>x.qb σ h'=some d∧K e h') E:=fun K hh=>by
      rw [hyp,e2] at hh ⊢
      simp only [tH,cf.map,eV] at hh ⊢
      obtain ⟨q0,es,q1,q2,q3,q5⟩:=hh
      refine ⟨q0,es,q1,q2,q3,?_⟩
      have mh:∃id v o ds,σ.env m=.ptr id v o∧h.f id=some (.cells ds):=by
        have:=List.all_eq_true.1 q0 _ (List.mem_map.2 ⟨_,th,rfl⟩)
        simp only [Fr.ev] at this
        unfold cellAt at this
        split at this
        · rename_i id v o hp
          split at this
          · rename_i ds hd; exact ⟨id,v,o,ds,hp,hd⟩
          · cases this
        · cases this
      obtain ⟨id,v0,o0,ds0,hpm,NF⟩:=mh
      have kp:∀i o,i≠id→iz h (h.set i o) (σ.env m):=fun i o iy=>by
        rw [hpm]
        simp only [iz,aa.b9]
        rw [if_neg fun e=>iy e.symm]
      revert q5
      cases σ.ev s0 with
      | aZ=>
        rintro ⟨r0,r1,r2⟩
        exact ⟨r0,r1,fun i hi=>⟨fM _ (kp i _ fun e=>by subst e; rw [hi] at NF; cases NF),r2 i hi⟩⟩
      | row r aY off len=>
        simp only
        split
        · rename_i jy cC xs du ho
          rintro ⟨r0,r1,r2,r3,r4,r5,r6⟩
          exact ⟨r0,r1,r2,r3,r4,r5,fM _ (kp r _ fun e=>by subst e; rw [ho] at NF; cases NF),r6⟩
        · rename_i jy cC xs ho
          rintro ⟨r1,r2,r3,r4,r5,r6⟩
          exact ⟨r1,r2,r3,r4,r5,fM _ (kp r _ fun e=>by subst e; rw [ho] at NF; cases NF),r6⟩
        · exact False.elim
      | _=>exact False.elim
    have h3:mJ T y (fun e h'=>x.qb σ h'=some d∧K d e h') E σ h:=by
      unfold mJ at h2 ⊢
      cases hg:y.g with
      | none=>rw [hg] at h2; exact HK _ h2
      | some tw=>
        obtain ⟨t,want⟩:=tw
        rw [hg] at h2
        simp only at h2 ⊢
        split at h2
        · exact ⟨fun e=>HK _ (h2.1 e),fun e=>⟨h1,h2.2 e⟩⟩
        · exact ⟨h1,h2⟩
        · exact h2.elim
    exact jq (fun e h' ⟨s,k⟩=>(gi (by omega)).2 ⟨d,s,k⟩) (fun _ _ k=>k) h3
  have ahC:x.kind=1→y.kind≤1→mJ T y (fun e h1=>mJ T x (fun d h2=>K d e h2) E σ h1) E σ h:=fun hx hy=>by
    obtain ⟨d,h1,h2⟩:=(gi (by omega)).1 hv
    obtain ⟨e,h3,h4⟩:=(gi hy).1 h2
    exact (gi hy).2 ⟨e,h3,(gi (by omega)).2 ⟨d,h1,h4⟩⟩
  have alI:x.kind=2→y.kind=3→y.g.isNone=true→mJ T y (fun e h1=>mJ T x (fun d h2=>K d e h2) E σ h1) E σ h:=fun hx hy hyg=>by
    have hyp:y.p=false∧∃ds,y.i=.alloc ds:=by
      unfold fw.kind at hy
      cases hp:y.p with
      | true=>rw [hp] at hy; simp at hy
      | false=>
        rw [hp] at hy
        simp only at hy
        refine ⟨rfl,?_⟩
        split at hy<;>first | (exfalso; omega) | exact ⟨_,by assumption⟩
    have YG:x.p=false∧∃f as,x.i=.qcall f as:=by
      unfold fw.kind at hx
      cases hp:x.p with
      | true=>rw [hp] at hx; simp at hx
      | false=>
        rw [hp] at hx
        simp only at hx
        refine ⟨rfl,?_⟩
        split at hx<;>first | (exfalso; omega) | exact ⟨_,_,by assumption⟩
    obtain ⟨yp,c,yi⟩:=hyp
    obtain ⟨xp,f,as,xi⟩:=YG
    have new:∀(h:aa) (K E:D→aa→Prop),tH T y.p (y.i.map σ.ev) h K E↔∀id,h.f id=none→K (.ptr id 1 0) (h.set id (.cells c)):=fun h K E=>by
      rw [yi,yp]; rfl
    have ahl:∀(h:aa) (id:Nat) (ds:List D),h.f id=none→fQ (h.set id (.cells c)) ds=(fQ h ds).set id (.cells c):=fun h id ds hid=>by
      rw [rV,rV]
      generalize ds.flatMap jD=rs
      induction rs generalizing h with
      | nil=>rfl
      | cons r rs ih=>
        simp only [List.foldl_cons]
        have:fh (h.set id (.cells c)) r=(fh h r).set id (.cells c):=aa.ext fun q=>by
          rw [rU]
          simp only [aa.b9]
          rw [rU]
          by_cases e1:q=r<;>by_cases e2:q=id
          · subst e1; subst e2; simp
          · subst e1; simp [e2]
          · subst e2; simp [e1]
          · simp [e1,e2]
        rw [this]
        exact ih _ (by rw [rU]; split<;>simp_all)
    have plc:∀(h:aa) (id:Nat) (d:D),h.f id=none→mv (h.set id (.cells c)) d=mv h d:=fun h id d hid=>by
      cases d with
      | row r aY off len=>
        simp only [mv,aa.b9]
        by_cases e:r=id
        · subst e; simp [hid]
        · simp [e]
      | _=>rfl
    have pl:∀(h:aa) (id:Nat) (d:D),h.f id=none→plain (h.set id (.cells c)) d=plain h d:=fun h id d hid=>by
      cases d with
      | agg ds=>rw [l7,l7]; congr 1; exact List.map_congr_left fun d _=>plc h id d hid
      | _=>rw [oR _ _ (by simp),oR _ _ (by simp)]; exact plc h id _ hid
    have free:∀(h:aa) (id:Nat) (ds:List D),h.f id=none→(fQ h ds).f id=none:=fun h id ds hid=>by
      rw [rV]
      rw [(ee.U9 h (ds.flatMap jD) id).2 (by simp [hid]),hid]
    have abO:∀(d:D) (h h1:aa) (id:Nat),gO d (h.set id (.cells c)) (h1.set id (.cells c))=(gO d h h1).set id (.cells c):=fun d h h1 id=>by
      unfold gO; cases scalar d<;>rfl
    have abN:∀{h h1:aa} {id:Nat} (d:D) (_:True),h.f id=none→h1.f id=none→(gO d h h1).f id=none:=fun d _ a b=>by
      unfold gO; cases scalar d<;>assumption
    have call:∀(h:aa) (K:D→aa→Prop) (id:Nat),h.f id=none→tH T x.p (x.i.map σ.ev) h (fun d h1=>∀id,h1.f id=none→K d (h1.set id (.cells c))) E→tH T x.p (x.i.map σ.ev) (h.set id (.cells c)) K E:=fun h K id hid hh=>by
      rw [xi,xp] at hh ⊢
      simp only [cf.map,tH,eV] at hh ⊢
      split at hh
      · rename_i k first cap ef
        rw [List.map_congr_left (g:=plain h) fun d _=>pl h id d hid,ahl h id _ hid]
        obtain ⟨d,e,kk⟩:=hh; exact ⟨d,e,by rw [abO]; exact kk id (abN _ trivial hid (free h id _ hid))⟩
      · exact hh.elim
    have goal:∀(K:D→D→aa→Prop),mJ T x (fun d h1=>tH T y.p (y.i.map σ.ev) h1 (fun e h2=>K d e h2) E) E σ h→tH T y.p (y.i.map σ.ev) h (fun e h1=>mJ T x (fun d h2=>K d e h2) E σ h1) E:=fun K hh=>by
      rw [new]
      intro id hid
      unfold mJ at hh ⊢
      have c0:∀(K1:D→aa→Prop),tH T x.p (x.i.map σ.ev) h (fun d h1=>tH T y.p (y.i.map σ.ev) h1 (fun e h2=>K d e h2) E) E→tH T x.p (x.i.map σ.ev) (h.set id (.cells c)) (fun d h2=>K d (.ptr id 1 0) h2) E:=fun K1 hh=>by
        refine BL (K:=fun d h2=>∀hh:True,K d (.ptr id 1 0) h2) (fun d h2 k=>k trivial) (fun _ _ k=>k) ?_
        rw [xi,xp] at hh ⊢
        simp only [cf.map,tH,eV] at hh ⊢
        split at hh
        · rename_i k first cap ef
          rw [List.map_congr_left (g:=plain h) fun d _=>pl h id d hid,ahl h id _ hid]
          obtain ⟨d,e,kk⟩:=hh; exact ⟨d,e,fun _=>by rw [abO]; exact (new _ _ _).1 kk id (abN _ trivial hid (free h id _ hid))⟩
        · exact hh.elim
      cases hg:x.g with
      | none=>rw [hg] at hh; exact c0 (fun _ _=>True) hh
      | some tw=>
        obtain ⟨t,want⟩:=tw
        rw [hg] at hh
        simp only at hh ⊢
        split at hh
        · exact ⟨fun e=>c0 (fun _ _=>True) (hh.1 e),fun e=>(new _ _ _).1 (hh.2 e) id hid⟩
        · exact (new _ _ _).1 hh id hid
        · exact hh.elim
    unfold mJ
    cases hg:y.g with
    | none=>
      refine goal K ?_
      refine jq (fun d h1 k=>?_) (fun _ _ k=>k) hv
      unfold mJ at k
      rw [hg] at k
      exact k
    | some tw=>rw [hg] at hyg; cases hyg
  split at hs
  · exact hk0 (by assumption)
  · exact ahC (by assumption) (by omega)
  · exact ahC (by assumption) (by omega)
  · exact hk1 (by assumption) (by omega)
  · exact hk1 (by assumption) (by omega)
  · exact hk1 (by assumption) (by omega)
  · exact hk1 (by assumption) (by omega)
  · exact alI (by assumption) (by assumption) hs
  · exact alF (by assumption) (by assumption) hs
  · exact alG (by assumption) (by assumption) hs
  · exact alH (by assumption) (by assumption) hs
  · exact hk1 (by assumption) (by omega)
  · cases hs
def Fr.low (m:Nat) (σ:Fr):Fr:=⟨fun a=>if a<m then σ.env a else .undef,σ.defs⟩
def dOk (m:Nat) (o:fw):Bool:=match o.d with
  | some a=>decide (m≤a)
  | none=>true
theorem NV {m:Nat} {o:fw} (h:dOk m o=true) (σ:Fr) (v:D):(σ.put o.d v).low m=σ.low m:=by
  unfold dOk at h
  cases hd:o.d with
  | none=>rfl
  | some a=>
    rw [hd] at h
    have h:m≤a:=by simpa using h
    unfold Fr.low
    congr 1
    funext b
    by_cases c:b<m
    · have:b≠a:=by omega
      simp [c,Fr.put,this]
    · simp [c]
def yy (T:bh) (oi:Nat→Option fw) (m j:Nat) (K:Fr→aa→Prop) (E:Fr→D→aa→Prop) (σ:Fr) (h:aa):Prop:=
  match oi j with
  | none=>False
  | some o=>opA T o K (E (σ.low m)) σ h
theorem Dz {oi:Nat→Option fw} {m j:Nat} {K K':Fr→aa→Prop} {E:Fr→D→aa→Prop} (hk:∀σ h,K σ h→K' σ h) (hv:yy T oi m j K E σ h):yy T oi m j K' E σ h:=by
  unfold yy at*
  split at hv
  · exact hv.elim
  · exact uk hk (fun _ _ k=>k) hv
def FV (oi:Nat→Option fw) (m i j:Nat):Bool:=
  match oi i,oi j with
  | some x,some y=>dOk m x && dOk m y && (x.apart y && WO x y)
  | _,_=>false
theorem SW {oi:Nat→Option fw} {m i j:Nat} (hs:FV oi m i j=true) {K:Fr→aa→Prop} {E:Fr→D→aa→Prop} (hv:yy T oi m i (yy T oi m j K E) E σ h):yy T oi m j (yy T oi m i K E) E σ h:=by
  unfold FV at hs
  unfold yy at*
  cases hx:oi i with
  | none=>rw [hx] at hs; cases hs
  | some x=>
    cases hy:oi j with
    | none=>rw [hx,hy] at hs; cases hs
    | some y=>
      rw [hx,hy] at hs
      simp only [Bool.and_eq_true] at hs
      obtain ⟨⟨hd1,hd2⟩,ha,hc⟩:=hs
      obtain ⟨l1,l2,l3⟩:=fw.apart_spec ha
      simp only [hx,hy] at hv ⊢
      rw [r8] at hv ⊢
      have h1:mJ T x (fun d h1=>mJ T y (fun e h2=>K ((σ.put x.d d).put y.d e) h2) (E (σ.low m)) σ h1) (E (σ.low m)) σ h:=
        jq (fun d h1 k=>by rw [r8,N0 l1,NV hd1] at k; exact k) (fun _ _ k=>k) hv
      have h2:=VX hc (K:=fun d e h2=>K ((σ.put x.d d).put y.d e) h2) h1
      refine jq (fun e h1 k=>?_) (fun _ _ k=>k) h2
      rw [r8,N0 l3]
      rw [NV hd2]
      refine jq (fun d h2 k=>?_) (fun _ _ k=>k) k
      rw [←put_comm l2]
      exact k
def KE (T:bh) (m:Nat) (md:Region.Mode) (ops:Array Oper) (oi:Nat→Option fw) (K:Fr→aa→Prop) (E:Fr→D→aa→Prop):Nat→Array Bool→Fr→aa→Prop
  | 0,listed,σ,h=>K σ h
  | fuel+1,listed,σ,h=>(Region.ready md ops listed=[]→K σ h)∧∀i∈Region.ready md ops listed,yy T oi m i (KE T m md ops oi K E fuel (listed.setIfInBounds i true)) E σ h
theorem RL [aT] {κ0:cT} {h0:aa} {w0:World} (hT:T.qe P κ0 w0) (u_:Inv κ0 h0 w0) {ro:Option Nat} {K:Ex→Fr→aa→Prop} {E:Fr→D→aa→Prop} {Ed:Fr→D→aa→Prop} {m:Nat} (hE:∀σ d h,Ed (σ.low m) d h→E σ d h) {md:Region.Mode} {ops:Array Oper} {cfg:Cfg} {dr:Bool} {r:Nat}:
    ∀(fuel t:Nat) (listed:Array Bool) (κ:cT) (h:aa) (w:World) (σ:Fr) (a:Act),Inv κ h w→lf κ w σ n a→Ev κ0 h0 w0 κ h w→
      KE T m md ops (sK P n cfg dr r ops) (K .normal) Ed fuel listed σ h→wpOpsIn (FW ro) 0 P ops (QK κ0 h0 w0 n K E) (Region.linearise.go md ops fuel t listed []) a w:=by
  intro fuel
  induction fuel with
  | zero=>intro t listed κ h w σ a hi hp ev hv; exact ⟨κ,h,σ,hv,hi,hp,ev⟩
  | succ fuel ih=>
    intro t listed κ h w σ a hi hp ev hv
    obtain ⟨h₀,h₁⟩:=hv
    simp only [Region.linearise.go]
    change wpOpsIn (FW ro) 0 P ops (QK κ0 h0 w0 n K E) (match (Region.ready md ops listed)[t % (Region.ready md ops listed).length]? with
      | some i=>Region.linearise.go md ops fuel (t / (Region.ready md ops listed).length) (listed.setIfInBounds i true) [i]
      | none=>[].reverse) a w
    cases hix:(Region.ready md ops listed)[t % (Region.ready md ops listed).length]? with
    | none=>
      have lx:Region.ready md ops listed=[]:=by
        cases hr:Region.ready md ops listed with
        | nil=>rfl
        | cons x xs=>
          rw [hr] at hix
          have ig:t % (x::xs).length<(x::xs).length:=Nat.mod_lt _ (by simp)
          simp at hix
          simp at ig
          omega
      exact ⟨κ,h,σ,h₀ lx,hi,hp,ev⟩
    | some i=>
      simp only []
      rw [linearise_go_acc,List.reverse_singleton,List.singleton_append,wpOpsIn_cons]
      have hv:=h₁ i (List.mem_of_getElem? hix)
      unfold yy at hv
      split at hv
      · exact hv.elim
      · rename_i o ho
        exact RE (hT.mono (ev.le u_)) ho hi hp ev (uk (fun _ _ k=>k) (fun _ _ k=>hE _ _ _ k) hv) fun κ' h' w' σ' a' k i' p' e'=>ih _ _ κ' h' w' σ' a' i' p' e' k
inductive Reach (md:Region.Mode) (ops:Array Oper) (i:Nat):Nat→Prop
  | one {j:Nat} {o:Oper} {e:Edge} (ho:ops[j]? =some o) (he:e∈o.after) (hb:Region.binds md e=true) (h:e.on=i):Reach md ops i j
  | more {j:Nat} {o:Oper} {e:Edge} (ho:ops[j]? =some o) (he:e∈o.after) (hb:Region.binds md e=true) (h:Reach md ops i e.on):Reach md ops i j
def Down (md:Region.Mode) (ops:Array Oper) (listed:Array Bool):Prop:=
  ∀m o,ops[m]? =some o→listed.getD m false=true→∀e∈o.after,Region.binds md e=true→listed.getD e.on false=true
theorem Down.reach {md:Region.Mode} {ops:Array Oper} {listed:Array Bool} (hd:Down md ops listed) {i j:Nat} (hr:Reach md ops i j) (hj:∀o,ops[j]? =some o→∀e∈o.after,Region.binds md e=true→listed.getD e.on false=true):listed.getD i false=true:=by
  induction hr with
  | one ho he hb h=>rw [←h]; exact hj _ ho _ he hb
  | more ho he hb h ih=>exact ih fun o' qI=>hd _ _ qI (hj _ ho _ he hb)
theorem Down.put {md:Region.Mode} {ops:Array Oper} {listed:Array Bool} (hd:Down md ops listed) {j:Nat} (hj:j∈Region.ready md ops listed):Down md ops (listed.setIfInBounds j true):=fun m o ho hm e he hb=>by
  refine getD_set_true ?_
  by_cases hjm:j=m
  · subst hjm
    obtain ⟨_,o',qI,vI⟩:=mem_ready.1 hj
    rw [ho] at qI
    cases qI
    exact vI e he hb
  · rw [getD_set_ne false hjm] at hm
    exact hd m o ho hm e he hb
theorem SN {md:Region.Mode} {ops:Array Oper} {listed:Array Bool} (hd:Down md ops listed) {i j:Nat} (hr:i∈Region.ready md ops listed) (hj:j∈Region.ready md ops listed):¬Reach md ops i j:=fun h=>by
  obtain ⟨_,oj,hoj,vI⟩:=mem_ready.1 hj
  have h1:=hd.reach h fun o ho e he hb=>by
    rw [hoj] at ho
    cases ho
    exact vI e he hb
  have h0:=(mem_ready.1 hr).1
  rcases Nat.lt_or_ge i listed.size with h' | h'
  · simp [h'] at h0 h1; rw [h0] at h1; cases h1
  · simp [Array.getElem?_eq_none h'] at h1
theorem RJ {md:Region.Mode} {ops:Array Oper} {oi:Nat→Option fw} {K:Fr→aa→Prop} {E:Fr→D→aa→Prop} {m i:Nat}:
    ∀(fuel:Nat) (listed:Array Bool) (L:List Nat) (σ:Fr) (h:aa),L.length≤fuel+1→(∀j,j<ops.size→listed.getD j true=false→j∈L)→Down md ops listed→
      (∀j oj,ops[j]? =some oj→j≠i→listed.getD j true=false→¬Reach md ops i j→FV oi m i j=true)→
      i∈Region.ready md ops listed→yy T oi m i (KE T m md ops oi K E fuel (listed.setIfInBounds i true)) E σ h→KE T m md ops oi K E (fuel+1) listed σ h:=by
  intro fuel
  induction fuel with
  | zero=>
    intro listed L σ h hl hL LG Vn hr H
    refine ⟨fun h=>(by rw [h] at hr; cases hr),fun j hj=>?_⟩
    by_cases Ga:j=i
    · subst Ga; exact H
    · obtain ⟨hju,oj,hoj,_⟩:=mem_ready.1 hj
      obtain ⟨hiu,oi',hoi,_⟩:=mem_ready.1 hr
      have m1:=hL j (Array.getElem?_eq_some_iff.1 hoj).1 hju
      have m2:=hL i (Array.getElem?_eq_some_iff.1 hoi).1 hiu
      match L,hl,m1,m2 with
      | [x],_,m1,m2=>
        simp at m1 m2
        exact absurd (m1.trans m2.symm) Ga
      | [],_,m1,_=>cases m1
      | _::_::_,hl,_,_=>simp at hl
  | succ fuel ih=>
    intro listed L σ h hl hL LG Vn hr H
    refine ⟨fun h=>(by rw [h] at hr; cases hr),fun j hj=>?_⟩
    by_cases Ga:j=i
    · subst Ga; exact H
    · obtain ⟨Zx,oj,hoj,vI⟩:=mem_ready.1 hj
      have h1:=Dz (fun σ' h' k=>k.2 j (ready_mono hj Ga)) H
      have h2:=SW (Vn j oj hoj Ga Zx (SN LG hr hj)) h1
      refine Dz (fun σ' h' k=>?_) h2
      refine ih (listed.setIfInBounds j true) (L.erase j) σ' h' ?_ (fun q hq hu=>?_) (LG.put hj) (fun q oq hq hqi hun yS=>?_) (ready_mono hr (Ne.symm Ga)) (by rw [Array.setIfInBounds_comm _ _ Ga]; exact k)
      · have m1:=hL j (Array.getElem?_eq_some_iff.1 hoj).1 Zx
        rw [List.length_erase_of_mem m1]
        omega
      · by_cases Sw:j=q
        · subst Sw
          exfalso
          rcases Nat.lt_or_ge j listed.size with h' | h'
          · simp [h'] at hu
          · simp [Array.getElem?_eq_none h'] at Zx
        · rw [getD_set_ne true Sw] at hu
          exact (List.mem_erase_of_ne (Ne.symm Sw)).2 (hL q hq hu)
      · refine Vn q oq hq hqi ?_ yS
        by_cases Sw:j=q
        · subst Sw; exact Zx
        · rw [getD_set_ne true Sw] at hun; exact hun
def ND (md:Region.Mode) (ops:Array Oper) (i m j:Nat):Bool:=
  match ops[j]? with
  | some o=>o.after.any fun e=>Region.binds md e && (e.on==i || m.testBit e.on)
  | none=>false
def UU (md:Region.Mode) (ops:Array Oper) (i:Nat):Nat:=
  (List.range ops.size).foldl (fun m j=>if ND md ops i m j=true then m ||| 2 ^ j else m) 0
theorem G5 {md:Region.Mode} {ops:Array Oper} {i:Nat}:∀j,(UU md ops i).testBit j=true→Reach md ops i j:=by
  unfold UU
  generalize List.range ops.size=l
  have key:∀(l:List Nat) (m:Nat),(∀j,m.testBit j=true→Reach md ops i j)→∀j,(l.foldl (fun m j=>if ND md ops i m j=true then m ||| 2 ^ j else m) m).testBit j=true→Reach md ops i j:=by
    intro l
    induction l with
    | nil=>exact fun m hm j hj=>hm j hj
    | cons q l ih=>
      intro m hm j hj
      simp only [List.foldl_cons] at hj
      refine ih _ ?_ j hj
      clear hj j
      intro j hj
      by_cases hq:ND md ops i m q=true
      · rw [if_pos hq] at hj
        simp only [Nat.testBit_or,Nat.testBit_two_pow,Bool.or_eq_true,decide_eq_true_eq] at hj
        rcases hj with hj | hj
        · exact hm j hj
        · subst hj
          unfold ND at hq
          split at hq
          · rename_i o ho
            obtain ⟨e,he,hb⟩:=Array.any_eq_true'.1 hq
            simp only [Bool.and_eq_true,Bool.or_eq_true,beq_iff_eq] at hb
            obtain ⟨hb1,yo | yo⟩:=hb
            · exact .one ho he hb1 yo
            · exact .more ho he hb1 (hm _ yo)
          · cases hq
      · rw [if_neg hq] at hj; exact hm j hj
  exact key l 0 (fun j hj=>by simp at hj)
def zJ (md:Region.Mode) (ops:Array Oper) (oi:Nat→Option fw) (m:Nat):List Nat→Array Bool→Bool
  | [],listed=>(Region.ready md ops listed).isEmpty
  | i::l,listed=>(Region.ready md ops listed).contains i &&
      (List.range ops.size).all (fun j=>j==i || listed.getD j true || (UU md ops i).testBit j || FV oi m i j) &&
      zJ md ops oi m l (listed.setIfInBounds i true)
theorem tY {md:Region.Mode} {ops:Array Oper} {oi:Nat→Option fw} {m:Nat} {K:Fr→aa→Prop} {E:Fr→D→aa→Prop}:∀(l:List Nat) (fuel:Nat) (os:List fw) (listed:Array Bool) (L:List Nat) (σ:Fr) (h:aa),
    zJ md ops oi m l listed=true→l.mapM oi=some os→L.length≤fuel→(∀j,j<ops.size→listed.getD j true=false→j∈L)→Down md ops listed→l.length≤fuel→gE T os K (fun σ=>E (σ.low m)) σ h→KE T m md ops oi K E fuel listed σ h
  | [],fuel,os,listed,L,σ,h,hc,hm,hl,hL,LG,hf,hv=>by
    simp at hm
    subst hm
    simp only [zJ,List.isEmpty_iff] at hc
    cases fuel with
    | zero=>exact hv
    | succ fuel=>exact ⟨fun _=>hv,by rw [hc]; simp⟩
  | i::l,0,os,listed,L,σ,h,hc,hm,hl,hL,LG,hf,hv=>by simp at hf
  | i::l,fuel+1,os,listed,L,σ,h,hc,hm,hl,hL,LG,hf,hv=>by
    simp only [zJ,Bool.and_eq_true,List.all_eq_true,List.mem_range,Bool.or_eq_true,beq_iff_eq] at hc
    obtain ⟨⟨c1,c2⟩,c3⟩:=hc
    simp only [List.mapM_cons,Option.bind_eq_bind,Option.bind_eq_some_iff] at hm
    obtain ⟨o,e1,os',e2,e3⟩:=hm
    cases e3
    have hr:i∈Region.ready md ops listed:=by simpa using c1
    obtain ⟨hiu,oo,LJ,_⟩:=mem_ready.1 hr
    refine RJ fuel listed L σ h (by omega) hL LG (fun j oj hj Ga hun yS=>?_) hr ?_
    · have ig:=(Array.getElem?_eq_some_iff.1 hj).1
      rcases c2 j ig with ((h1 | h1) | h1) | h1
      · exact absurd h1 Ga
      · rw [hun] at h1; cases h1
      · exact absurd (G5 j h1) yS
      · exact h1
    · unfold yy
      simp only [e1]
      refine uk (fun σ' h' k=>?_) (fun _ _ k=>k) hv
      refine tY l fuel os' (listed.setIfInBounds i true) (L.erase i) σ' h' c3 e2 ?_ (fun q hq hu=>?_) (LG.put hr) (by simpa using hf) k
      · have m1:=hL i (Array.getElem?_eq_some_iff.1 LJ).1 hiu
        rw [List.length_erase_of_mem m1]
        omega
      · by_cases Sw:i=q
        · subst Sw
          exfalso
          rcases Nat.lt_or_ge i listed.size with h' | h'
          · simp [h'] at hu
          · simp [Array.getElem?_eq_none h'] at hiu
        · rw [getD_set_ne true Sw] at hu
          exact (List.mem_erase_of_ne (Ne.symm Sw)).2 (hL q hq hu)
theorem Down.none {md:Region.Mode} {ops:Array Oper} {n:Nat}:Down md ops (Array.replicate n false):=fun m o _ hm=>by
  exfalso
  rw [Array.getD_eq_getD_getElem?,Array.getElem?_replicate] at hm
  split at hm<;>simp at hm
end Go.Proofs.YtpklkpkfgmoghaaGreatDoor.Zz
