/- Regions whose order of evaluation is drawn: one order tells them all. -/
import Derived.Test.YtpklkpkfgmoghaaGreatDoorZR
set_option linter.unnecessarySimpa false
set_option linter.unusedVariables false
set_option linter.unusedSimpArgs false
namespace Go.Proofs.YtpklkpkfgmoghaaGreatDoor.Zz
variable {P:Program} {T:bm} {κ:cp} {h:aa} {w:World} {σ:Fr} {n:Nat} {a:Act}
def bM.nV {α:Type}:bM α→List α
  | .cy x=>[x]
  | .pick c a b=>[c,a,b]
  | .alloc ds=>[]
  | .box x=>[x]
  | .build zs ps=>ps.map (·.2.2)
  | .buildSlice sz zs n ps r=>ps.map (·.2)
  | .load n x=>[x]
  | .cT n x b=>[x,b]
  | .lN f=>[]
  | .store n x v=>[x,v]
  | .storeNe n x v ys=>x::v::ys
  | .nilCheck x=>[x]
  | .bin op x y=>[x,y]
  | .eql t n x y=>[x,y]
  | .un op x=>[x]
  | .conv c x=>[x]
  | .vg n x=>[x]
  | .iW _ x y=>[x,y]
  | .slice k x lo hi mx=>x::(lo.toList++hi.toList++mx.toList)
  | .fieldAddr o x=>[x]
  | .field o n x=>[x]
  | .fL l s x i=>[x,i]
  | .a8 s x i=>[x,i]
  | .sw l s n x i=>[x,i]
  | .ic x i=>[x,i]
  | .extract x i=>[x]
  | .mw t x=>[x]
  | .mkFunc fn a b=>a++b
  | .len k x=>[x]
  | .p7 k x=>[x]
  | .nR m x y=>[x,y]
  | .append sz b t s x=>[s,x]
  | .makeSlice sz b zs l c=>[l,c]
  | .call f as=>f::as
  | .callR f as=>f::as
  | .callNe f as ys=>f::(as++ys)
  | .appendA sz b t s x ys=>s::x::ys
  | .kz n x v=>[x,v]
  | .iw n x v=>[x,v]
  | .qcall f as=>f::as
  | .panic x=>[x]
  | .defer f as=>f::as
  | .typeAssert t ok z x=>[x]
  | .makeMap=>[]
  | .lookup z ok m k=>[m,k]
  | .mapUpdate m k v=>[m,k,v]
  | .delete m k=>[m,k]
  | .isNil n x=>[x]
  | .mK x=>[x]
  | .pN x=>[x]
theorem bM.map_congr {α β:Type} {f g:α→β} {i:bM α} (e:∀x∈i.nV,f x=g x):i.map f=i.map g:=by
  cases i<;>simp only [bM.nV,bM.map] at e ⊢
  case build zs ps=>congr 1; exact List.map_congr_left fun p hp=>by rw [e p.2.2 (List.mem_map.2 ⟨p,hp,rfl⟩)]
  case buildSlice sz zs n ps r=>congr 1; exact List.map_congr_left fun p hp=>by rw [e p.2 (List.mem_map.2 ⟨p,hp,rfl⟩)]
  case slice k x lo hi mx=>
    rw [e x (by simp)]
    congr 1
    · cases lo with
      | none=>rfl
      | some z=>simp only [Option.map_some]; rw [e z (by simp)]
    · cases hi with
      | none=>rfl
      | some z=>simp only [Option.map_some]; rw [e z (by simp)]
    · cases mx with
      | none=>rfl
      | some z=>simp only [Option.map_some]; rw [e z (by simp)]
  case mkFunc fn a b=>congr 1<;>exact List.map_congr_left fun p hp=>e p (by simp [hp])
  case storeNe n x v ys=>rw [e x (by simp),e v (by simp)]; congr 1; exact List.map_congr_left fun p hp=>e p (by simp [hp])
  case call f as=>rw [e f (by simp)]; congr 1; exact List.map_congr_left fun p hp=>e p (by simp [hp])
  case callR f as=>rw [e f (by simp)]; congr 1; exact List.map_congr_left fun p hp=>e p (by simp [hp])
  case appendA sz b t s x ys=>rw [e s (by simp),e x (by simp)]; congr 1; exact List.map_congr_left fun p hp=>e p (by simp [hp])
  case callNe f as ys=>rw [e f (by simp)]; congr 1<;>exact List.map_congr_left fun p hp=>e p (by simp [hp])
  case qcall f as=>rw [e f (by simp)]; congr 1; exact List.map_congr_left fun p hp=>e p (by simp [hp])
  case defer f as=>rw [e f (by simp)]; congr 1; exact List.map_congr_left fun p hp=>e p (by simp [hp])
  bf dj
def ep.looks (o:ep):List Nat:=
  (o.i.nV.filterMap fun | .t n=>some n | _=>none)++(match o.g with | some (t,_)=>[t] | none=>[])
def ep.apart (x y:ep):Bool:=
  (match x.d with
   | some t=> !(y.looks.contains t) && !(y.d==some t)
   | none=>true) &&
  (match y.d with
   | some t=> !(x.looks.contains t)
   | none=>true)
theorem ep.apart_spec {x y:ep} (e:x.apart y=true):(∀t,x.d=some t→t ∉ y.looks)∧(∀t,x.d=some t→y.d≠some t)∧(∀t,y.d=some t→t ∉ x.looks):=by
  refine ⟨fun t ht=>?_,fun t ht=>?_,fun t ht=>?_⟩<;>simp [ep.apart,ht] at e
  · exact e.1.1
  · exact e.1.2
  · exact e.2
theorem Im {o:ep} {K E:D→aa→Prop} {dst:Option Nat} {d:D} (hl:∀t,dst=some t→t ∉ o.looks):kE T o K E (σ.put dst d) h↔kE T o K E σ h:=by
  cases dst with
  | none=>rfl
  | some t=>
    have Se:=hl t rfl
    have e1:o.i.map (σ.put (some t) d).ev=o.i.map σ.ev:=bM.map_congr fun x hx=>by
      cases x with
      | t j=>
        have:j≠t:=fun e=>Se (by subst e; exact List.mem_append_left _ (List.mem_filterMap.2 ⟨_,hx,rfl⟩))
        simp [Fr.ev,this]
      | _=>rfl
    unfold kE
    cases hg:o.g with
    | none=>simp only [e1]
    | some tw=>
      obtain ⟨t',want⟩:=tw
      have:t'≠t:=fun e=>Se (by subst e; simp [ep.looks,hg])
      simp only [e1,Fr.n9,this,if_false]
theorem put_comm {x y:Option Nat} {d e:D} (iC:∀t,x=some t→y≠some t):(σ.put x d).put y e=(σ.put y e).put x d:=by
  cases x with
  | none=>rfl
  | some t=>
    cases y with
    | none=>rfl
    | some u=>
      have:t≠u:=fun e=>iC t rfl (by rw [e])
      refine Fr.ext (fun i=>?_) rfl
      simp only [Fr.n9]
      by_cases h1:i=u<;>by_cases h2:i=t<;>dj
def ep.kind (o:ep):Nat:=
  match o.p with
  | true=>0
  | false=>match o.i with
    | .load .. | .cT .. | .slice .. | .a8 .. =>1
    | .conv .dW _=>1
    | .qcall .. =>2
    | .alloc .. =>3
    | .box .. =>4
    | .storeNe .. =>6
    | .lN _=>7
    | .callNe .. =>8
    | .appendA .. =>9
    | .buildSlice _ _ _ _ true=>10
    | _=>5
def WL:bM f7→bM f7→Bool
  | .load _ (.t m),.storeNe _ _ _ ys | .cT _ _ (.t m),.storeNe _ _ _ ys=>ys.any fun | .t k=>m==k | _=>false
  | _,_=>false
def VU:bM f7→bM f7→Bool
  | .load _ (.t m),.callNe _ _ ys | .cT _ _ (.t m),.callNe _ _ ys=>ys.any fun | .t k=>m==k | _=>false
  | _,_=>false
def VF:bM f7→bM f7→Bool
  | .load _ (.t m),.appendA _ _ _ _ _ ys | .cT _ _ (.t m),.appendA _ _ _ _ _ ys=>ys.any fun | .t k=>m==k | _=>false
  | _,_=>false
def PA (x y:ep):Bool:=
  match x.kind,y.kind with
  | 0,_=>true
  | 1,0 | 1,1 | 1,2 | 1,3 | 1,4 | 1,7=>true
  | 2,3=>y.g.isNone
  | 1,6=>WL x.i y.i
  | 1,8=>VU x.i y.i
  | 1,9=>VF x.i y.i
  | 1,10=>true
  | _,_=>false
def ql (h:aa):bM D→Option D
  | .load n x=>eJ h n x
  | .cT n x b=>if eu x b=true then eJ h n x else none
  | .conv c x=>cK h (.conv c x)
  | .slice k x lo hi mx=>match x with
    | .row .. =>cK h (.slice k x lo hi mx)
    | _=>bo (.slice k x lo hi mx)
  | .a8 sz x i=>match x with
    | .row .. =>cK h (.a8 sz x i)
    | _=>bo (.a8 sz x i)
  | _=>none
def ep.val (o:ep) (σ:Fr) (h:aa):Option D:=
  match o.p with
  | true=>dS (o.i.map σ.ev)
  | false=>ql h (o.i.map σ.ev)
def ep.ng (o:ep) (σ:Fr) (h:aa):Option D:=
  match o.g with
  | none=>o.val σ h
  | some (t,want)=>match σ.env t with
    | .bool b=>if b=want then o.val σ h else some (.tuple [])
    | .tuple []=>some (.tuple [])
    | _=>none
theorem B3 {o:ep} (hk:o.kind≤1) {K E:D→aa→Prop}:qn T o.p (o.i.map σ.ev) h K E↔∃d,o.val σ h=some d∧K d h:=by
  unfold ep.val qn
  cases hp:o.p with
  | true=>rfl
  | false=>
    simp only
    unfold ep.kind at hk
    rw [hp] at hk
    simp only at hk
    split at hk
    · ab e; rw [e]; rfl
    · ab e; rw [e]; rfl
    · ab x lo hi mx e; rw [e]; simp only [bM.map,d_,ql]; generalize σ.ev x=dx; cases dx<;>rfl
    · ab x i e; rw [e]; simp only [bM.map,d_,ql]; generalize σ.ev x=dx; cases dx<;>rfl
    · ab e; rw [e]; rfl
    bf omega
theorem eX {o:ep} (hk:o.kind≤1) {K E:D→aa→Prop}:kE T o K E σ h↔∃d,o.ng σ h=some d∧K d h:=by
  unfold kE ep.ng
  cases hg:o.g with
  | none=>exact B3 hk
  | some tw=>
    obtain ⟨t,want⟩:=tw
    simp only
    generalize σ.env t=dt
    cases dt with
    | bool b=>
      simp only
      by_cases e:b=want
      · rw [if_pos e]
        constructor
        · intro hv; exact (B3 hk).1 (hv.1 e)
        · intro hv
          refine ⟨fun _=>(B3 hk).2 hv,fun e'=>?_⟩
          rw [e] at e'
          cases want<;>cases e'
      · rw [if_neg e]
        have e':b= !want:=by cases b<;>cases want<;>first | rfl | exact absurd rfl e
        constructor
        · intro hv; exact ⟨_,rfl,hv.2 e'⟩
        · rintro ⟨d,h1,h2⟩
          cases h1
          exact ⟨fun x=>absurd x e,fun _=>h2⟩
    | tuple ds=>
      cases ds with
      | nil=>
        constructor
        · intro hv; exact ⟨_,rfl,hv⟩
        · rintro ⟨d,h1,h2⟩; cases h1; exact h2
      | cons d ds=>
        constructor
        · intro hv; exact hv.elim
        · rintro ⟨d,h1,h2⟩; cases h1
    | _=>
      constructor
      · intro hv; exact hv.elim
      · rintro ⟨d,h1,h2⟩; cases h1
def lK (h h':aa):Prop:=∀id o,h.f id=some o→h'.f id=some o∨∃sz aR xs fz HZ,o=.row sz aR xs fz∧h'.f id=some (.row sz aR xs HZ)
theorem lK.set {id:Nat} {o:cR} (fE:h.f id=none):lK h (h.set id o):=fun i oi e=>.inl (by
  have:i≠id:=fun x=>by subst x; rw [fE] at e; cases e
  simp [this,e])
theorem lK.ff (ds:List D):lK h (ff h ds):=fun id o e=>by
  rw [oV]
  have:=dA.N1 h (ds.flatMap gW) id
  cases o with
  | row sz aR xs fz=>obtain ⟨HZ,h1,_⟩:=this.1 sz aR xs fz e; exact .inr ⟨sz,aR,xs,fz,HZ,rfl,h1⟩
  | _=>exact .inl (by rw [this.2 (by simp [e]),e])
theorem lK.WE {d:D} (ds:List D):lK h (fp d h (Go.Proofs.YtpklkpkfgmoghaaGreatDoor.Zz.ff h ds)):=by
  unfold fp
  cases scalar d with
  | true=>exact fun id o e=>lK.ff [] id o e
  | false=>exact lK.ff ds
theorem wh {h':aa} (s:lK h h') {k:Option Nat} {x d:D} (e:eJ h k x=some d):eJ h' k x=some d:=by
  unfold eJ at*
  split at e
  · split at e
    · ab o ho
      rcases s _ _ ho with h1 | ⟨_,_,_,_,_,h1,_⟩
      · simp only [h1]; exact e
      · cases h1
    · cases e
  · exact e
  · split at e
    · ab o ho
      rcases s _ _ ho with h1 | ⟨_,_,_,_,_,h1,h2⟩
      · simp only [h1]; exact e
      · cases h1; simp only [h2]; exact e
    · ab o ho
      rcases s _ _ ho with h1 | ⟨_,_,_,_,_,h1,h2⟩
      · simp only [h1]; exact e
      · cases h1
    · cases e
  · cases e
theorem A_ {h':aa} (s:lK h h') {x:D} {xs:List (List D)} (e:cO h x=some xs):cO h' x=some xs:=by
  unfold cO at*
  split at e
  · exact e
  · exact e
  · split at e
    · ab o ho
      rcases s _ _ ho with h1 | ⟨_,_,_,_,_,h1,h2⟩
      · simp only [h1]; exact e
      · cases h1; simp only [h2]; exact e
    · cases e
  · split at e
    · ab o ho
      rcases s _ _ ho with h1 | ⟨_,_,_,_,_,h1,_⟩
      · simp only [h1]; exact e
      · cases h1
    · cases e
  · cases e
theorem MM {h':aa} (s:lK h h') {i:bM D} {d:D} (e:ql h i=some d):ql h' i=some d:=by
  have row:∀{r:Nat} {f:Option cR→Option D},(∀o,f (some o)≠none→∃sz aR xs fz,o=.row sz aR xs fz)→f none=none→(∀sz aR xs fz HZ,f (some (.row sz aR xs fz))=f (some (.row sz aR xs HZ)))→f (h.f r)=some d→f (h'.f r)=some d:=fun {r f} h1 h2 h3 h4=>by
    cases ho:h.f r with
    | none=>rw [ho,h2] at h4; cases h4
    | some o=>
      rw [ho] at h4
      obtain ⟨sz,aR,xs,fz,rfl⟩:=h1 o (by rw [h4]; simp)
      rcases s _ _ ho with g | ⟨_,_,_,_,HZ,g1,g2⟩
      · rw [g]; exact h4
      · cases g1; rw [g2,←h3 _ _ _ fz]; exact h4
  cases i with
  | load n x=>exact wh s e
  | cT n x b=>
    simp only [ql] at e ⊢
    split at e
    · ab hs; rw [if_pos hs]; exact wh s e
    · cases e
  | conv c x=>
    simp only [ql,cK] at e ⊢
    cases c<;>first | (cases e; done) | skip
    simp only at e ⊢
    split at e
    · ab xs hx
      simp only [A_ s hx]
      exact e
    · cases e
  | slice k x lo hi mx=>
    simp only [ql] at e ⊢
    cases x<;>first | exact e | skip
    ab r aR off len
    simp only [cK] at e ⊢
    cases k<;>cases mx<;>first | (cases e; done) | skip
    ab sz
    simp only at e ⊢
    exact row (f:=fun o=>match o with | some (.row gS bW xs fz)=>if gS=sz∧bW=aR then (bounds len lo hi).map fun b=>.row r aR (off+b.1) (b.2 - b.1) else none | _=>none) (fun o ho=>by cases o<;>first | exact ⟨_,_,_,_,rfl⟩ | exact absurd rfl ho) rfl (fun _ _ _ _ _=>rfl) e
  | a8 sz x i=>
    simp only [ql] at e ⊢
    cases x<;>first | exact e | skip
    ab r aR off len
    simp only [cK] at e ⊢
    cases i<;>first | (cases e; done) | skip
    ab kk i
    simp only at e ⊢
    split at e
    · ab o ho
      rcases s _ _ ho with h1 | ⟨_,_,_,_,_,h1,h2⟩
      · simp only [h1]; exact e
      · cases h1; simp only [h2]; exact e
    · ab o ho
      rcases s _ _ ho with h1 | ⟨_,_,_,_,_,h1,h2⟩
      · simp only [h1]; exact e
      · cases h1
    · cases e
  | _=>cases e
theorem Mn {h':aa} (s:lK h h') {o:ep} {d:D} (e:o.ng σ h=some d):o.ng σ h'=some d:=by
  have v:∀{d},o.val σ h=some d→o.val σ h'=some d:=fun e=>by
    unfold ep.val at*
    cases hp:o.p with
    | true=>simp only [hp] at e ⊢; exact e
    | false=>simp only [hp] at e ⊢; exact MM s e
  unfold ep.ng at*
  cases hg:o.g with
  | none=>simp only [hg] at e ⊢; exact v e
  | some tw=>
    obtain ⟨t,want⟩:=tw
    simp only [hg] at e ⊢
    generalize σ.env t=dt at e ⊢
    cases dt with
    | bool b=>
      simp only at e ⊢
      by_cases eb:b=want
      · rw [if_pos eb] at e ⊢; exact v e
      · rw [if_neg eb] at e ⊢; exact e
    | tuple ds=>cases ds<;>exact e
    | _=>cases e
theorem OL {o:ep} (hk:o.kind=2∨o.kind=3∨o.kind=4∨o.kind=7∨o.kind=10) {K E E':D→aa→Prop} (hv:kE T o K E σ h):kE T o (fun d h'=>lK h h'∧K d h') E' σ h:=by
  have refl:lK h h:=fun id o e=>.inl e
  have v:qn T o.p (o.i.map σ.ev) h K E→qn T o.p (o.i.map σ.ev) h (fun d h'=>lK h h'∧K d h') E':=fun hv=>by
    unfold ep.kind at hk
    cases hp:o.p with
    | true=>rw [hp] at hk; simp at hk
    | false=>
      rw [hp] at hk hv
      simp only at hk
      simp only [qn] at hv ⊢
      split at hk
      bf first
        | (exfalso; omega)
        | skip
      · ab e
        rw [e] at hv ⊢
        simp only [bM.map,d_] at hv ⊢
        split at hv
        · obtain ⟨d,e,x⟩:=hv; exact ⟨d,e,lK.WE _,x⟩
        · exact hv.elim
      · ab e
        rw [e] at hv ⊢
        exact fun id fE=>⟨lK.set fE,hv id fE⟩
      · ab e
        rw [e] at hv ⊢
        exact ⟨hv.1,fun id fE=>⟨lK.set fE,hv.2 id fE⟩⟩
      · ab e
        rw [e] at hv ⊢
        obtain ⟨ds,q1,q2⟩:=hv
        exact ⟨ds,q1,fun id fE=>⟨lK.set fE,q2 id fE⟩⟩
      · ab e
        rw [e] at hv ⊢
        obtain ⟨xs,q1,q2⟩:=hv
        exact ⟨xs,q1,fun id fE=>⟨lK.set fE,q2 id fE⟩⟩
  unfold kE at*
  cases hg:o.g with
  | none=>simp only [hg] at hv ⊢; exact v hv
  | some tw=>
    obtain ⟨t,want⟩:=tw
    simp only [hg] at hv ⊢
    split at hv
    · exact ⟨fun e=>v (hv.1 e),fun e=>⟨refl,hv.2 e⟩⟩
    · exact ⟨refl,hv⟩
    · exact hv.elim
theorem GK {x y b:D} (h1:gh x b=true) (h2:eu y b=true):gh x y=true:=by
  unfold eu at h2
  split at h2
  bf first
    | (cases h2; done)
    | (cases x<;>rfl)
    | (simp only [beq_iff_eq] at h2
       subst h2
       cases x<;>first | exact h1 | (simp [gh] at h1; done))
theorem zw {h h':aa} {n:Nat} {x0 v y0 d:D} {k:Option Nat} (Ob:gh x0 y0=true) (nh:fx h n x0 v=some h') (hd:eJ h k y0=some d):eJ h' k y0=some d:=by
  unfold fx at nh
  split at nh
  · have set:∀(i:Nat) (o:cR),(∀j w f,y0=.ptr j w f→j≠i)→(∀j w q f,y0=.eM j w q f→j≠i)→eJ (h.set i o) k y0=some d:=fun i o q1 q2=>by
      cases y0 with
      | ptr j w f=>simp only [eJ,aa.dN,if_neg (q1 j w f rfl)] at hd ⊢; exact hd
      | eM j w q f=>simp only [eJ,aa.dN,if_neg (q2 j w q f rfl)] at hd ⊢; exact hd
      | c8=>exact hd
      | _=>simp [eJ] at hd
    split at nh
    · split at nh
      · split at nh
        · cases nh
          refine set _ _ (fun j w f e=>?_) (fun j w q f e=>?_)
          · subst e; simp [gh] at Ob; exact fun e=>Ob e.symm
          · subst e; simp [gh] at Ob; exact fun e=>Ob e.symm
        · cases nh
      · cases nh
    · split at nh
      · split at nh
        · split at nh
          · split at nh
            · cases nh
              refine set _ _ (fun j w f e=>?_) (fun j w q f e=>?_)
              · subst e; simp [gh] at Ob; exact fun e=>Ob e.symm
              · subst e; simp [gh] at Ob; exact fun e=>Ob e.symm
            · cases nh
          · cases nh
        · cases nh
      · cases nh
    · cases nh
  · cases nh
theorem o6 {h h':aa} {x:D} {k:Option Nat} (hk:f5 h h' x):eJ h' k x=eJ h k x:=by
  cases x<;>first | exact hk.elim | rfl | (simp only [f5] at hk; simp only [eJ,hk])
theorem zo {h h':aa} {x b:D} (hk:f5 h h' b) (hs:eu x b=true):f5 h h' x:=by
  unfold eu at hs
  split at hs
  bf first
    | (cases hs; done)
    | trivial
    | (simp only [beq_iff_eq] at hs
       subst hs
       exact hk)
theorem OM {x y:ep} (hs:PA x y=true) {K:D→D→aa→Prop} {E:D→aa→Prop} (hv:kE T x (fun d h1=>kE T y (fun e h2=>K d e h2) E σ h1) E σ h):
    kE T y (fun e h1=>kE T x (fun d h2=>K d e h2) E σ h1) E σ h:=by
  unfold PA at hs
  have hk0:x.kind=0→kE T y (fun e h1=>kE T x (fun d h2=>K d e h2) E σ h1) E σ h:=fun hx=>by
    obtain ⟨d,h1,h2⟩:=(eX (by omega)).1 hv
    refine gL (fun e h' k=>(eX (by omega)).2 ⟨d,?_,k⟩) (fun _ _ k=>k) h2
    have hp:x.p=true:=by
      unfold ep.kind at hx
      cases hp:x.p with
      | true=>rfl
      | false=>rw [hp] at hx; simp only at hx; split at hx<;>omega
    unfold ep.ng ep.val at*
    rw [hp] at h1 ⊢
    exact h1
  have ZE:x.kind=1→y.kind=2∨y.kind=3∨y.kind=4∨y.kind=7∨y.kind=10→kE T y (fun e h1=>kE T x (fun d h2=>K d e h2) E σ h1) E σ h:=fun hx hy=>by
    obtain ⟨d,h1,h2⟩:=(eX (by omega)).1 hv
    exact gL (fun e h' ⟨s,k⟩=>(eX (by omega)).2 ⟨d,Mn s h1,k⟩) (fun _ _ k=>k) (OL (E':=E) hy h2)
  have adH:x.kind=1→y.kind=6→WL x.i y.i=true→kE T y (fun e h1=>kE T x (fun d h2=>K d e h2) E σ h1) E σ h:=fun hx hy iC=>by
    obtain ⟨d,h1,h2⟩:=(eX (by omega)).1 hv
    have ZY:∃k m c,(x.i=.load k (.t m)∧c=f7.t m∨x.i=.cT k c (.t m))∧∃n a v ys,y.i=.storeNe n a v ys∧f7.t m∈ys:=by
      unfold WL at iC
      split at iC
      · ab k m n a v ys e1 e2
        refine ⟨k,m,_,.inl ⟨e1,rfl⟩,n,a,v,ys,e2,?_⟩
        obtain ⟨z,hz,vZ⟩:=List.any_eq_true.1 iC
        cases z with
        | t j=>simp at vZ; subst vZ; exact hz
        | _=>simp at vZ
      · ab k c m n a v ys e1 e2
        refine ⟨k,m,c,.inr e1,n,a,v,ys,e2,?_⟩
        obtain ⟨z,hz,vZ⟩:=List.any_eq_true.1 iC
        cases z with
        | t j=>simp at vZ; subst vZ; exact hz
        | _=>simp at vZ
      · cases iC
    obtain ⟨k,m,c,e1,n,a,v,ys,e2,p5⟩:=ZY
    have hyp:y.p=false:=by
      unfold ep.kind at hy
      cases hp:y.p with
      | true=>rw [hp] at hy; simp at hy
      | false=>rfl
    have Rz:x.p=false:=by
      unfold ep.kind at hx
      cases hp:x.p with
      | true=>rw [hp] at hx; simp at hx
      | false=>rfl
    have Gw:∀h',gh (σ.ev a) (σ.env m)=true→fx h n (σ.ev a) (σ.ev v)=some h'→x.ng σ h'=some d:=fun h' Ob nh=>by
      have su:∀d,x.val σ h=some d→x.val σ h'=some d:=fun d hd=>by
        unfold ep.val at*
        rcases e1 with ⟨e1,_⟩ | e1
        · rw [Rz,e1] at hd ⊢
          simp only [bM.map,ql,Fr.ev] at hd ⊢
          exact zw Ob nh hd
        · rw [Rz,e1] at hd ⊢
          simp only [bM.map,ql] at hd ⊢
          split at hd
          · ab pF
            rw [if_pos pF]
            exact zw (GK Ob pF) nh hd
          · cases hd
      unfold ep.ng at*
      cases hg:x.g with
      | none=>rw [hg] at h1; exact su _ h1
      | some tw=>
        obtain ⟨t,want⟩:=tw
        rw [hg] at h1
        simp only at h1 ⊢
        generalize σ.env t=dt at h1 ⊢
        cases dt with
        | bool b=>
          simp only at h1 ⊢
          by_cases eb:b=want
          · rw [if_pos eb] at h1 ⊢; exact su _ h1
          · rw [if_neg eb] at h1 ⊢; exact h1
        | tuple ds=>cases ds<;>exact h1
        | _=>cases h1
    have De:∀(K:D→aa→Prop),qn T y.p (y.i.map σ.ev) h K E→qn T y.p (y.i.map σ.ev) h (fun e h'=>x.ng σ h'=some d∧K e h') E:=fun K hh=>by
      rw [hyp,e2] at hh ⊢
      obtain ⟨q1,h',q2,q3⟩:=hh
      refine ⟨q1,h',q2,Gw h' ?_ q2,q3⟩
      exact List.all_eq_true.1 q1 _ (List.mem_map.2 ⟨_,p5,rfl⟩)
    have h3:kE T y (fun e h'=>x.ng σ h'=some d∧K d e h') E σ h:=by
      unfold kE at h2 ⊢
      cases hg:y.g with
      | none=>rw [hg] at h2; exact De _ h2
      | some tw=>
        obtain ⟨t,want⟩:=tw
        rw [hg] at h2
        simp only at h2 ⊢
        split at h2
        · exact ⟨fun e=>De _ (h2.1 e),fun e=>⟨h1,h2.2 e⟩⟩
        · exact ⟨h1,h2⟩
        · exact h2.elim
    exact gL (fun e h' ⟨s,k⟩=>(eX (by omega)).2 ⟨d,s,k⟩) (fun _ _ k=>k) h3
  have adI:x.kind=1→y.kind=8→VU x.i y.i=true→kE T y (fun e h1=>kE T x (fun d h2=>K d e h2) E σ h1) E σ h:=fun hx hy iC=>by
    obtain ⟨d,h1,h2⟩:=(eX (by omega)).1 hv
    have ZY:∃k m c,(x.i=.load k (.t m)∧c=f7.t m∨x.i=.cT k c (.t m))∧∃f as ys,y.i=.callNe f as ys∧f7.t m∈ys:=by
      unfold VU at iC
      split at iC
      · ab k m f as ys e1 e2
        refine ⟨k,m,_,.inl ⟨e1,rfl⟩,f,as,ys,e2,?_⟩
        obtain ⟨z,hz,vZ⟩:=List.any_eq_true.1 iC
        cases z with
        | t j=>simp at vZ; subst vZ; exact hz
        | _=>simp at vZ
      · ab k c m f as ys e1 e2
        refine ⟨k,m,c,.inr e1,f,as,ys,e2,?_⟩
        obtain ⟨z,hz,vZ⟩:=List.any_eq_true.1 iC
        cases z with
        | t j=>simp at vZ; subst vZ; exact hz
        | _=>simp at vZ
      · cases iC
    obtain ⟨k,m,c,e1,f,as,ys,e2,p5⟩:=ZY
    have hyp:y.p=false:=by
      unfold ep.kind at hy
      cases hp:y.p with
      | true=>rw [hp] at hy; simp at hy
      | false=>rfl
    have Rz:x.p=false:=by
      unfold ep.kind at hx
      cases hp:x.p with
      | true=>rw [hp] at hx; simp at hx
      | false=>rfl
    have Gw:∀h',f5 h h' (σ.env m)→x.ng σ h'=some d:=fun h' ZJ=>by
      have su:∀d,x.val σ h=some d→x.val σ h'=some d:=fun d hd=>by
        unfold ep.val at*
        rcases e1 with ⟨e1,_⟩ | e1
        · rw [Rz,e1] at hd ⊢
          simp only [bM.map,ql,Fr.ev] at hd ⊢
          exact (o6 ZJ).trans hd
        · rw [Rz,e1] at hd ⊢
          simp only [bM.map,ql] at hd ⊢
          split at hd
          · ab pF
            rw [if_pos pF]
            exact (o6 (zo ZJ pF)).trans hd
          · cases hd
      unfold ep.ng at*
      cases hg:x.g with
      | none=>rw [hg] at h1; exact su _ h1
      | some tw=>
        obtain ⟨t,want⟩:=tw
        rw [hg] at h1
        simp only at h1 ⊢
        generalize σ.env t=dt at h1 ⊢
        cases dt with
        | bool b=>
          simp only at h1 ⊢
          by_cases eb:b=want
          · rw [if_pos eb] at h1 ⊢; exact su _ h1
          · rw [if_neg eb] at h1 ⊢; exact h1
        | tuple ds=>cases ds<;>exact h1
        | _=>cases h1
    have De:∀(K:D→aa→Prop),qn T y.p (y.i.map σ.ev) h K E→qn T y.p (y.i.map σ.ev) h (fun e h'=>x.ng σ h'=some d∧K e h') E:=fun K hh=>by
      rw [hyp,e2] at hh ⊢
      simp only [qn,bM.map,d_] at hh ⊢
      split at hh
      · exact T.mono _ _ _ _ _ _ _ (fun e h' k=>⟨k.1,Gw h' (k.1 _ (List.mem_map.2 ⟨_,p5,rfl⟩)),k.2⟩) (fun _ _ k=>k) hh
      · exact hh.elim
    have h3:kE T y (fun e h'=>x.ng σ h'=some d∧K d e h') E σ h:=by
      unfold kE at h2 ⊢
      cases hg:y.g with
      | none=>rw [hg] at h2; exact De _ h2
      | some tw=>
        obtain ⟨t,want⟩:=tw
        rw [hg] at h2
        simp only at h2 ⊢
        split at h2
        · exact ⟨fun e=>De _ (h2.1 e),fun e=>⟨h1,h2.2 e⟩⟩
        · exact ⟨h1,h2⟩
        · exact h2.elim
    exact gL (fun e h' ⟨s,k⟩=>(eX (by omega)).2 ⟨d,s,k⟩) (fun _ _ k=>k) h3
  have adJ:x.kind=1→y.kind=9→VF x.i y.i=true→kE T y (fun e h1=>kE T x (fun d h2=>K d e h2) E σ h1) E σ h:=fun hx hy iC=>by
    obtain ⟨d,h1,h2⟩:=(eX (by omega)).1 hv
    have ZY:∃k m c,(x.i=.load k (.t m)∧c=f7.t m∨x.i=.cT k c (.t m))∧∃sz jK st s0 x0 ys,y.i=.appendA sz jK st s0 x0 ys∧f7.t m∈ys:=by
      unfold VF at iC
      split at iC
      · ab k m sz jK st s0 x0 ys e1 e2
        refine ⟨k,m,_,.inl ⟨e1,rfl⟩,sz,jK,st,s0,x0,ys,e2,?_⟩
        obtain ⟨z,hz,vZ⟩:=List.any_eq_true.1 iC
        cases z with
        | t j=>simp at vZ; subst vZ; exact hz
        | _=>simp at vZ
      · ab k c m sz jK st s0 x0 ys e1 e2
        refine ⟨k,m,c,.inr e1,sz,jK,st,s0,x0,ys,e2,?_⟩
        obtain ⟨z,hz,vZ⟩:=List.any_eq_true.1 iC
        cases z with
        | t j=>simp at vZ; subst vZ; exact hz
        | _=>simp at vZ
      · cases iC
    obtain ⟨k,m,c,e1,sz,jK,st,s0,x0,ys,e2,p5⟩:=ZY
    have hyp:y.p=false:=by
      unfold ep.kind at hy
      cases hp:y.p with
      | true=>rw [hp] at hy; simp at hy
      | false=>rfl
    have Rz:x.p=false:=by
      unfold ep.kind at hx
      cases hp:x.p with
      | true=>rw [hp] at hx; simp at hx
      | false=>rfl
    have Gw:∀h',f5 h h' (σ.env m)→x.ng σ h'=some d:=fun h' ZJ=>by
      have su:∀d,x.val σ h=some d→x.val σ h'=some d:=fun d hd=>by
        unfold ep.val at*
        rcases e1 with ⟨e1,_⟩ | e1
        · rw [Rz,e1] at hd ⊢
          simp only [bM.map,ql,Fr.ev] at hd ⊢
          exact (o6 ZJ).trans hd
        · rw [Rz,e1] at hd ⊢
          simp only [bM.map,ql] at hd ⊢
          split at hd
          · ab pF
            rw [if_pos pF]
            exact (o6 (zo ZJ pF)).trans hd
          · cases hd
      unfold ep.ng at*
      cases hg:x.g with
      | none=>rw [hg] at h1; exact su _ h1
      | some tw=>
        obtain ⟨t,want⟩:=tw
        rw [hg] at h1
        simp only at h1 ⊢
        generalize σ.env t=dt at h1 ⊢
        cases dt with
        | bool b=>
          simp only at h1 ⊢
          by_cases eb:b=want
          · rw [if_pos eb] at h1 ⊢; exact su _ h1
          · rw [if_neg eb] at h1 ⊢; exact h1
        | tuple ds=>cases ds<;>exact h1
        | _=>cases h1
    have De:∀(K:D→aa→Prop),qn T y.p (y.i.map σ.ev) h K E→qn T y.p (y.i.map σ.ev) h (fun e h'=>x.ng σ h'=some d∧K e h') E:=fun K hh=>by
      rw [hyp,e2] at hh ⊢
      simp only [qn,bM.map,d_] at hh ⊢
      obtain ⟨q0,es,q1,q2,q3,q5⟩:=hh
      refine ⟨q0,es,q1,q2,q3,?_⟩
      have iM:∃id v o ds,σ.env m=.ptr id v o∧h.f id=some (.cells ds):=by
        have:=List.all_eq_true.1 q0 _ (List.mem_map.2 ⟨_,p5,rfl⟩)
        simp only [Fr.ev] at this
        unfold cellAt at this
        split at this
        · ab id v o hp
          split at this
          · ab ds hd; exact ⟨id,v,o,ds,hp,hd⟩
          · cases this
        · cases this
      obtain ⟨id,v0,o0,ds0,hpm,H3⟩:=iM
      have kp:∀i o,i≠id→f5 h (h.set i o) (σ.env m):=fun i o iC=>by
        rw [hpm]
        simp only [f5,aa.dN]
        rw [if_neg fun e=>iC e.symm]
      revert q5
      cases σ.ev s0 with
      | bg=>
        rintro ⟨r0,r1,r2⟩
        exact ⟨r0,r1,fun i hi=>⟨Gw _ (kp i _ fun e=>by subst e; rw [hi] at H3; cases H3),r2 i hi⟩⟩
      | row r aR off len=>
        simp only
        split
        · ab gS bW xs f9 ho
          rintro ⟨r0,r1,r2,r3,r4,r5,r6⟩
          exact ⟨r0,r1,r2,r3,r4,r5,Gw _ (kp r _ fun e=>by subst e; rw [ho] at H3; cases H3),r6⟩
        · ab gS bW xs ho
          rintro ⟨r1,r2,r3,r4,r5,r6⟩
          exact ⟨r1,r2,r3,r4,r5,Gw _ (kp r _ fun e=>by subst e; rw [ho] at H3; cases H3),r6⟩
        · exact False.elim
      | _=>exact False.elim
    have h3:kE T y (fun e h'=>x.ng σ h'=some d∧K d e h') E σ h:=by
      unfold kE at h2 ⊢
      cases hg:y.g with
      | none=>rw [hg] at h2; exact De _ h2
      | some tw=>
        obtain ⟨t,want⟩:=tw
        rw [hg] at h2
        simp only at h2 ⊢
        split at h2
        · exact ⟨fun e=>De _ (h2.1 e),fun e=>⟨h1,h2.2 e⟩⟩
        · exact ⟨h1,h2⟩
        · exact h2.elim
    exact gL (fun e h' ⟨s,k⟩=>(eX (by omega)).2 ⟨d,s,k⟩) (fun _ _ k=>k) h3
  have ZG:x.kind=1→y.kind≤1→kE T y (fun e h1=>kE T x (fun d h2=>K d e h2) E σ h1) E σ h:=fun hx hy=>by
    obtain ⟨d,h1,h2⟩:=(eX (by omega)).1 hv
    obtain ⟨e,h3,h4⟩:=(eX hy).1 h2
    exact (eX hy).2 ⟨e,h3,(eX (by omega)).2 ⟨d,h1,h4⟩⟩
  have adK:x.kind=2→y.kind=3→y.g.isNone=true→kE T y (fun e h1=>kE T x (fun d h2=>K d e h2) E σ h1) E σ h:=fun hx hy hyg=>by
    have hyp:y.p=false∧∃ds,y.i=.alloc ds:=by
      unfold ep.kind at hy
      cases hp:y.p with
      | true=>rw [hp] at hy; simp at hy
      | false=>
        rw [hp] at hy
        simp only at hy
        refine ⟨rfl,?_⟩
        split at hy<;>first | (exfalso; omega) | exact ⟨_,by assumption⟩
    have Rz:x.p=false∧∃f as,x.i=.qcall f as:=by
      unfold ep.kind at hx
      cases hp:x.p with
      | true=>rw [hp] at hx; simp at hx
      | false=>
        rw [hp] at hx
        simp only at hx
        refine ⟨rfl,?_⟩
        split at hx<;>first | (exfalso; omega) | exact ⟨_,_,by assumption⟩
    obtain ⟨yp,c,yi⟩:=hyp
    obtain ⟨xp,f,as,xi⟩:=Rz
    have new:∀(h:aa) (K E:D→aa→Prop),qn T y.p (y.i.map σ.ev) h K E↔∀id,h.f id=none→K (.ptr id 1 0) (h.set id (.cells c)):=fun h K E=>by
      rw [yi,yp]; rfl
    have Zo:∀(h:aa) (id:Nat) (ds:List D),h.f id=none→ff (h.set id (.cells c)) ds=(ff h ds).set id (.cells c):=fun h id ds fE=>by
      rw [oV,oV]
      generalize ds.flatMap gW=rs
      induction rs generalizing h with
      | nil=>rfl
      | cons r rs ih=>
        simp only [List.foldl_cons]
        have:eB (h.set id (.cells c)) r=(eB h r).set id (.cells c):=aa.ext fun q=>by
          rw [qJ]
          simp only [aa.dN]
          rw [qJ]
          by_cases e1:q=r<;>by_cases e2:q=id
          · subst e1; subst e2; simp
          · subst e1; simp [e2]
          · subst e2; simp [e1]
          · simp [e1,e2]
        rw [this]
        exact ih _ (by rw [qJ]; split<;>dj)
    have plc:∀(h:aa) (id:Nat) (d:D),h.f id=none→ko (h.set id (.cells c)) d=ko h d:=fun h id d fE=>by
      cases d with
      | row r aR off len=>
        simp only [ko,aa.dN]
        by_cases e:r=id
        · subst e; simp [fE]
        · simp [e]
      | _=>rfl
    have pl:∀(h:aa) (id:Nat) (d:D),h.f id=none→plain (h.set id (.cells c)) d=plain h d:=fun h id d fE=>by
      cases d with
      | agg ds=>rw [j_,j_]; congr 1; exact List.map_congr_left fun d _=>plc h id d fE
      | _=>rw [l6 _ _ (by simp),l6 _ _ (by simp)]; exact plc h id _ fE
    have free:∀(h:aa) (id:Nat) (ds:List D),h.f id=none→(ff h ds).f id=none:=fun h id ds fE=>by
      rw [oV]
      rw [(dA.N1 h (ds.flatMap gW) id).2 (by simp [fE]),fE]
    have Ul:∀(d:D) (h h1:aa) (id:Nat),fp d (h.set id (.cells c)) (h1.set id (.cells c))=(fp d h h1).set id (.cells c):=fun d h h1 id=>by
      unfold fp; cases scalar d<;>rfl
    have Uk:∀{h h1:aa} {id:Nat} (d:D) (_:True),h.f id=none→h1.f id=none→(fp d h h1).f id=none:=fun d _ a b=>by
      unfold fp; cases scalar d<;>assumption
    have call:∀(h:aa) (K:D→aa→Prop) (id:Nat),h.f id=none→qn T x.p (x.i.map σ.ev) h (fun d h1=>∀id,h1.f id=none→K d (h1.set id (.cells c))) E→qn T x.p (x.i.map σ.ev) (h.set id (.cells c)) K E:=fun h K id fE hh=>by
      rw [xi,xp] at hh ⊢
      simp only [bM.map,qn,d_] at hh ⊢
      split at hh
      · ab k first cap ef
        rw [List.map_congr_left (g:=plain h) fun d _=>pl h id d fE,Zo h id _ fE]
        obtain ⟨d,e,kk⟩:=hh; exact ⟨d,e,by rw [Ul]; exact kk id (Uk _ trivial fE (free h id _ fE))⟩
      · exact hh.elim
    have goal:∀(K:D→D→aa→Prop),kE T x (fun d h1=>qn T y.p (y.i.map σ.ev) h1 (fun e h2=>K d e h2) E) E σ h→qn T y.p (y.i.map σ.ev) h (fun e h1=>kE T x (fun d h2=>K d e h2) E σ h1) E:=fun K hh=>by
      rw [new]
      intro id fE
      unfold kE at hh ⊢
      have c0:∀(K1:D→aa→Prop),qn T x.p (x.i.map σ.ev) h (fun d h1=>qn T y.p (y.i.map σ.ev) h1 (fun e h2=>K d e h2) E) E→qn T x.p (x.i.map σ.ev) (h.set id (.cells c)) (fun d h2=>K d (.ptr id 1 0) h2) E:=fun K1 hh=>by
        refine xD (K:=fun d h2=>∀hh:True,K d (.ptr id 1 0) h2) (fun d h2 k=>k trivial) (fun _ _ k=>k) ?_
        rw [xi,xp] at hh ⊢
        simp only [bM.map,qn,d_] at hh ⊢
        split at hh
        · ab k first cap ef
          rw [List.map_congr_left (g:=plain h) fun d _=>pl h id d fE,Zo h id _ fE]
          obtain ⟨d,e,kk⟩:=hh; exact ⟨d,e,fun _=>by rw [Ul]; exact (new _ _ _).1 kk id (Uk _ trivial fE (free h id _ fE))⟩
        · exact hh.elim
      cases hg:x.g with
      | none=>rw [hg] at hh; exact c0 (fun _ _=>True) hh
      | some tw=>
        obtain ⟨t,want⟩:=tw
        rw [hg] at hh
        simp only at hh ⊢
        split at hh
        · exact ⟨fun e=>c0 (fun _ _=>True) (hh.1 e),fun e=>(new _ _ _).1 (hh.2 e) id fE⟩
        · exact (new _ _ _).1 hh id fE
        · exact hh.elim
    unfold kE
    cases hg:y.g with
    | none=>
      refine goal K ?_
      refine gL (fun d h1 k=>?_) (fun _ _ k=>k) hv
      unfold kE at k
      rw [hg] at k
      exact k
    | some tw=>rw [hg] at hyg; cases hyg
  split at hs
  · exact hk0 (by assumption)
  · exact ZG (by assumption) (by omega)
  · exact ZG (by assumption) (by omega)
  · exact ZE (by assumption) (by omega)
  · exact ZE (by assumption) (by omega)
  · exact ZE (by assumption) (by omega)
  · exact ZE (by assumption) (by omega)
  · exact adK (by assumption) (by assumption) hs
  · exact adH (by assumption) (by assumption) hs
  · exact adI (by assumption) (by assumption) hs
  · exact adJ (by assumption) (by assumption) hs
  · exact ZE (by assumption) (by omega)
  · cases hs
def Fr.low (m:Nat) (σ:Fr):Fr:=⟨fun a=>if a<m then σ.env a else .undef,σ.defs⟩
def dOk (m:Nat) (o:ep):Bool:=match o.d with
  | some a=>decide (m≤a)
  | none=>true
theorem Ii {m:Nat} {o:ep} (h:dOk m o=true) (σ:Fr) (v:D):(σ.put o.d v).low m=σ.low m:=by
  unfold dOk at h
  cases hd:o.d with
  | none=>rfl
  | some a=>
    rw [hd] at h
    have h:m≤a:=by simpa using h
    unfold Fr.low
    congr 1
    funext b
    by_cases c:b<m
    · have:b≠a:=by omega
      simp [c,Fr.put,this]
    · simp [c]
def uI (T:bm) (oi:Nat→Option ep) (m j:Nat) (K:Fr→aa→Prop) (E:Fr→D→aa→Prop) (σ:Fr) (h:aa):Prop:=
  match oi j with
  | none=>False
  | some o=>Up T o K (E (σ.low m)) σ h
theorem zE {oi:Nat→Option ep} {m j:Nat} {K K':Fr→aa→Prop} {E:Fr→D→aa→Prop} (hk:∀σ h,K σ h→K' σ h) (hv:uI T oi m j K E σ h):uI T oi m j K' E σ h:=by
  unfold uI at*
  split at hv
  · exact hv.elim
  · exact qV hk (fun _ _ k=>k) hv
def BQ (oi:Nat→Option ep) (m i j:Nat):Bool:=
  match oi i,oi j with
  | some x,some y=>dOk m x && dOk m y && (x.apart y && PA x y)
  | _,_=>false
theorem L7 {oi:Nat→Option ep} {m i j:Nat} (hs:BQ oi m i j=true) {K:Fr→aa→Prop} {E:Fr→D→aa→Prop} (hv:uI T oi m i (uI T oi m j K E) E σ h):uI T oi m j (uI T oi m i K E) E σ h:=by
  unfold BQ at hs
  unfold uI at*
  cases hx:oi i with
  | none=>rw [hx] at hs; cases hs
  | some x=>
    cases hy:oi j with
    | none=>rw [hx,hy] at hs; cases hs
    | some y=>
      rw [hx,hy] at hs
      simp only [Bool.and_eq_true] at hs
      obtain ⟨⟨hd1,hd2⟩,ha,hc⟩:=hs
      obtain ⟨l1,l2,l3⟩:=ep.apart_spec ha
      simp only [hx,hy] at hv ⊢
      rw [o8] at hv ⊢
      have h1:kE T x (fun d h1=>kE T y (fun e h2=>K ((σ.put x.d d).put y.d e) h2) (E (σ.low m)) σ h1) (E (σ.low m)) σ h:=
        gL (fun d h1 k=>by rw [o8,Im l1,Ii hd1] at k; exact k) (fun _ _ k=>k) hv
      have h2:=OM hc (K:=fun d e h2=>K ((σ.put x.d d).put y.d e) h2) h1
      refine gL (fun e h1 k=>?_) (fun _ _ k=>k) h2
      rw [o8,Im l3]
      rw [Ii hd2]
      refine gL (fun d h2 k=>?_) (fun _ _ k=>k) k
      rw [←put_comm l2]
      exact k
def FD (T:bm) (m:Nat) (md:Region.Mode) (ops:Array Oper) (oi:Nat→Option ep) (K:Fr→aa→Prop) (E:Fr→D→aa→Prop):Nat→Array Bool→Fr→aa→Prop
  | 0,bI,σ,h=>K σ h
  | fuel+1,bI,σ,h=>(Region.ready md ops bI=[]→K σ h)∧∀i∈Region.ready md ops bI,uI T oi m i (FD T m md ops oi K E fuel (bI.setIfInBounds i true)) E σ h
theorem Lb [aN] {κ0:cp} {h0:aa} {w0:World} (hT:T.nU P κ0 w0) (r9:Inv κ0 h0 w0) {ro:Option Nat} {K:Ex→Fr→aa→Prop} {E:Fr→D→aa→Prop} {Ed:Fr→D→aa→Prop} {m:Nat} (hE:∀σ d h,Ed (σ.low m) d h→E σ d h) {md:Region.Mode} {ops:Array Oper} {cfg:VC} {dr:Bool} {r:Nat}:
    ∀(fuel t:Nat) (bI:Array Bool) (κ:cp) (h:aa) (w:World) (σ:Fr) (a:Act),Inv κ h w→jF κ w σ n a→Ev κ0 h0 w0 κ h w→
      FD T m md ops (pB P n cfg dr r ops) (K .normal) Ed fuel bI σ h→wpOpsIn (FW ro) 0 P ops (QK κ0 h0 w0 n K E) (Region.linearise.go md ops fuel t bI []) a w:=by
  intro fuel
  induction fuel with
  | zero=>intro t bI κ h w σ a hi hp ev hv; exact ⟨κ,h,σ,hv,hi,hp,ev⟩
  | succ fuel ih=>
    intro t bI κ h w σ a hi hp ev hv
    obtain ⟨h₀,h₁⟩:=hv
    simp only [Region.linearise.go]
    change wpOpsIn (FW ro) 0 P ops (QK κ0 h0 w0 n K E) (match (Region.ready md ops bI)[t % (Region.ready md ops bI).length]? with
      | some i=>Region.linearise.go md ops fuel (t / (Region.ready md ops bI).length) (bI.setIfInBounds i true) [i]
      | none=>[].reverse) a w
    cases hix:(Region.ready md ops bI)[t % (Region.ready md ops bI).length]? with
    | none=>
      have jM:Region.ready md ops bI=[]:=by
        cases hr:Region.ready md ops bI with
        | nil=>rfl
        | cons x xs=>
          rw [hr] at hix
          have hZ:t % (x::xs).length<(x::xs).length:=Nat.mod_lt _ (by simp)
          simp at hix
          simp at hZ
          omega
      exact ⟨κ,h,σ,h₀ jM,hi,hp,ev⟩
    | some i=>
      simp only []
      rw [linearise_go_acc,List.reverse_singleton,List.singleton_append,rY]
      have hv:=h₁ i (List.mem_of_getElem? hix)
      unfold uI at hv
      split at hv
      · exact hv.elim
      · ab o ho
        exact K6 (hT.mono (ev.le r9)) ho hi hp ev (qV (fun _ _ k=>k) (fun _ _ k=>hE _ _ _ k) hv) fun κ' h' w' σ' a' k i' p' e'=>ih _ _ κ' h' w' σ' a' i' p' e' k
inductive Reach (md:Region.Mode) (ops:Array Oper) (i:Nat):Nat→Prop
  | one {j:Nat} {o:Oper} {e:Edge} (ho:ops[j]? =some o) (he:e∈o.after) (hb:Region.binds md e=true) (h:e.on=i):Reach md ops i j
  | more {j:Nat} {o:Oper} {e:Edge} (ho:ops[j]? =some o) (he:e∈o.after) (hb:Region.binds md e=true) (h:Reach md ops i e.on):Reach md ops i j
def Down (md:Region.Mode) (ops:Array Oper) (bI:Array Bool):Prop:=
  ∀m o,ops[m]? =some o→bI.getD m false=true→∀e∈o.after,Region.binds md e=true→bI.getD e.on false=true
theorem Down.reach {md:Region.Mode} {ops:Array Oper} {bI:Array Bool} (hd:Down md ops bI) {i j:Nat} (hr:Reach md ops i j) (hj:∀o,ops[j]? =some o→∀e∈o.after,Region.binds md e=true→bI.getD e.on false=true):bI.getD i false=true:=by
  induction hr with
  | one ho he hb h=>rw [←h]; exact hj _ ho _ he hb
  | more ho he hb h ih=>exact ih fun o' nK=>hd _ _ nK (hj _ ho _ he hb)
theorem Down.put {md:Region.Mode} {ops:Array Oper} {bI:Array Bool} (hd:Down md ops bI) {j:Nat} (hj:j∈Region.ready md ops bI):Down md ops (bI.setIfInBounds j true):=fun m o ho hm e he hb=>by
  refine getD_set_true ?_
  by_cases hjm:j=m
  · subst hjm
    obtain ⟨_,o',nK,vW⟩:=mem_ready.1 hj
    rw [ho] at nK
    cases nK
    exact vW e he hb
  · rw [getD_set_ne false hjm] at hm
    exact hd m o ho hm e he hb
theorem LZ {md:Region.Mode} {ops:Array Oper} {bI:Array Bool} (hd:Down md ops bI) {i j:Nat} (hr:i∈Region.ready md ops bI) (hj:j∈Region.ready md ops bI):¬Reach md ops i j:=fun h=>by
  obtain ⟨_,oj,Yn,vW⟩:=mem_ready.1 hj
  have h1:=hd.reach h fun o ho e he hb=>by
    rw [Yn] at ho
    cases ho
    exact vW e he hb
  have h0:=(mem_ready.1 hr).1
  rcases Nat.lt_or_ge i bI.size with h' | h'
  · simp [h'] at h0 h1; rw [h0] at h1; cases h1
  · simp [Array.getElem?_eq_none h'] at h1
theorem La {md:Region.Mode} {ops:Array Oper} {oi:Nat→Option ep} {K:Fr→aa→Prop} {E:Fr→D→aa→Prop} {m i:Nat}:
    ∀(fuel:Nat) (bI:Array Bool) (L:List Nat) (σ:Fr) (h:aa),L.length≤fuel+1→(∀j,j<ops.size→bI.getD j true=false→j∈L)→Down md ops bI→
      (∀j oj,ops[j]? =some oj→j≠i→bI.getD j true=false→¬Reach md ops i j→BQ oi m i j=true)→
      i∈Region.ready md ops bI→uI T oi m i (FD T m md ops oi K E fuel (bI.setIfInBounds i true)) E σ h→FD T m md ops oi K E (fuel+1) bI σ h:=by
  intro fuel
  induction fuel with
  | zero=>
    intro bI L σ h hl hL R_ Oa hr H
    refine ⟨fun h=>(by rw [h] at hr; cases hr),fun j hj=>?_⟩
    by_cases Rw:j=i
    · subst Rw; exact H
    · obtain ⟨hju,oj,Yn,_⟩:=mem_ready.1 hj
      obtain ⟨hiu,oi',hoi,_⟩:=mem_ready.1 hr
      have m1:=hL j (Array.getElem?_eq_some_iff.1 Yn).1 hju
      have m2:=hL i (Array.getElem?_eq_some_iff.1 hoi).1 hiu
      match L,hl,m1,m2 with
      | [x],_,m1,m2=>
        simp at m1 m2
        exact absurd (m1.trans m2.symm) Rw
      | [],_,m1,_=>cases m1
      | _::_::_,hl,_,_=>simp at hl
  | succ fuel ih=>
    intro bI L σ h hl hL R_ Oa hr H
    refine ⟨fun h=>(by rw [h] at hr; cases hr),fun j hj=>?_⟩
    by_cases Rw:j=i
    · subst Rw; exact H
    · obtain ⟨Sc,oj,Yn,vW⟩:=mem_ready.1 hj
      have h1:=zE (fun σ' h' k=>k.2 j (ready_mono hj Rw)) H
      have h2:=L7 (Oa j oj Yn Rw Sc (LZ R_ hr hj)) h1
      refine zE (fun σ' h' k=>?_) h2
      refine ih (bI.setIfInBounds j true) (L.erase j) σ' h' ?_ (fun q hq hu=>?_) (R_.put hj) (fun q oq hq hqi Wv xJ=>?_) (ready_mono hr (Ne.symm Rw)) (by rw [Array.setIfInBounds_comm _ _ Rw]; exact k)
      · have m1:=hL j (Array.getElem?_eq_some_iff.1 Yn).1 Sc
        rw [List.length_erase_of_mem m1]
        omega
      · by_cases LH:j=q
        · subst LH
          exfalso
          rcases Nat.lt_or_ge j bI.size with h' | h'
          · simp [h'] at hu
          · simp [Array.getElem?_eq_none h'] at Sc
        · rw [getD_set_ne true LH] at hu
          exact (List.mem_erase_of_ne (Ne.symm LH)).2 (hL q hq hu)
      · refine Oa q oq hq hqi ?_ xJ
        by_cases LH:j=q
        · subst LH; exact Sc
        · rw [getD_set_ne true LH] at Wv; exact Wv
def H2 (md:Region.Mode) (ops:Array Oper) (i m j:Nat):Bool:=
  match ops[j]? with
  | some o=>o.after.any fun e=>Region.binds md e && (e.on==i || m.testBit e.on)
  | none=>false
def NN (md:Region.Mode) (ops:Array Oper) (i:Nat):Nat:=
  (List.range ops.size).foldl (fun m j=>if H2 md ops i m j=true then m ||| 2 ^ j else m) 0
theorem CB {md:Region.Mode} {ops:Array Oper} {i:Nat}:∀j,(NN md ops i).testBit j=true→Reach md ops i j:=by
  unfold NN
  generalize List.range ops.size=l
  have key:∀(l:List Nat) (m:Nat),(∀j,m.testBit j=true→Reach md ops i j)→∀j,(l.foldl (fun m j=>if H2 md ops i m j=true then m ||| 2 ^ j else m) m).testBit j=true→Reach md ops i j:=by
    intro l
    induction l with
    | nil=>exact fun m hm j hj=>hm j hj
    | cons q l ih=>
      intro m hm j hj
      simp only [List.foldl_cons] at hj
      refine ih _ ?_ j hj
      clear hj j
      intro j hj
      by_cases hq:H2 md ops i m q=true
      · rw [if_pos hq] at hj
        simp only [Nat.testBit_or,Nat.testBit_two_pow,Bool.or_eq_true,decide_eq_true_eq] at hj
        rcases hj with hj | hj
        · exact hm j hj
        · subst hj
          unfold H2 at hq
          split at hq
          · ab o ho
            obtain ⟨e,he,hb⟩:=Array.any_eq_true'.1 hq
            simp only [Bool.and_eq_true,Bool.or_eq_true,beq_iff_eq] at hb
            obtain ⟨Wc,xI | xI⟩:=hb
            · exact .one ho he Wc xI
            · exact .more ho he Wc (hm _ xI)
          · cases hq
      · rw [if_neg hq] at hj; exact hm j hj
  exact key l 0 (fun j hj=>by simp at hj)
def vu (md:Region.Mode) (ops:Array Oper) (oi:Nat→Option ep) (m:Nat):List Nat→Array Bool→Bool
  | [],bI=>(Region.ready md ops bI).isEmpty
  | i::l,bI=>(Region.ready md ops bI).contains i &&
      (List.range ops.size).all (fun j=>j==i || bI.getD j true || (NN md ops i).testBit j || BQ oi m i j) &&
      vu md ops oi m l (bI.setIfInBounds i true)
theorem qG {md:Region.Mode} {ops:Array Oper} {oi:Nat→Option ep} {m:Nat} {K:Fr→aa→Prop} {E:Fr→D→aa→Prop}:∀(l:List Nat) (fuel:Nat) (os:List ep) (bI:Array Bool) (L:List Nat) (σ:Fr) (h:aa),
    vu md ops oi m l bI=true→l.mapM oi=some os→L.length≤fuel→(∀j,j<ops.size→bI.getD j true=false→j∈L)→Down md ops bI→l.length≤fuel→fe T os K (fun σ=>E (σ.low m)) σ h→FD T m md ops oi K E fuel bI σ h
  | [],fuel,os,bI,L,σ,h,hc,hm,hl,hL,R_,hf,hv=>by
    simp at hm
    subst hm
    simp only [vu,List.isEmpty_iff] at hc
    cases fuel with
    | zero=>exact hv
    | succ fuel=>exact ⟨fun _=>hv,by rw [hc]; simp⟩
  | i::l,0,os,bI,L,σ,h,hc,hm,hl,hL,R_,hf,hv=>by simp at hf
  | i::l,fuel+1,os,bI,L,σ,h,hc,hm,hl,hL,R_,hf,hv=>by
    simp only [vu,Bool.and_eq_true,List.all_eq_true,List.mem_range,Bool.or_eq_true,beq_iff_eq] at hc
    obtain ⟨⟨c1,c2⟩,c3⟩:=hc
    simp only [List.mapM_cons,Option.bind_eq_bind,Option.bind_eq_some_iff] at hm
    obtain ⟨o,e1,os',e2,e3⟩:=hm
    cases e3
    have hr:i∈Region.ready md ops bI:=by simpa using c1
    obtain ⟨hiu,oo,LL,_⟩:=mem_ready.1 hr
    refine La fuel bI L σ h (by omega) hL R_ (fun j oj hj Rw Wv xJ=>?_) hr ?_
    · have hZ:=(Array.getElem?_eq_some_iff.1 hj).1
      rcases c2 j hZ with ((h1 | h1) | h1) | h1
      · exact absurd h1 Rw
      · rw [Wv] at h1; cases h1
      · exact absurd (CB j h1) xJ
      · exact h1
    · unfold uI
      simp only [e1]
      refine qV (fun σ' h' k=>?_) (fun _ _ k=>k) hv
      refine qG l fuel os' (bI.setIfInBounds i true) (L.erase i) σ' h' c3 e2 ?_ (fun q hq hu=>?_) (R_.put hr) (by simpa using hf) k
      · have m1:=hL i (Array.getElem?_eq_some_iff.1 LL).1 hiu
        rw [List.length_erase_of_mem m1]
        omega
      · by_cases LH:i=q
        · subst LH
          exfalso
          rcases Nat.lt_or_ge i bI.size with h' | h'
          · simp [h'] at hu
          · simp [Array.getElem?_eq_none h'] at hiu
        · rw [getD_set_ne true LH] at hu
          exact (List.mem_erase_of_ne (Ne.symm LH)).2 (hL q hq hu)
theorem Down.none {md:Region.Mode} {ops:Array Oper} {n:Nat}:Down md ops (Array.replicate n false):=fun m o _ hm=>by
  exfalso
  rw [Array.getD_eq_getD_getElem?,Array.getElem?_replicate] at hm
  split at hm<;>simp at hm
end Go.Proofs.YtpklkpkfgmoghaaGreatDoor.Zz
