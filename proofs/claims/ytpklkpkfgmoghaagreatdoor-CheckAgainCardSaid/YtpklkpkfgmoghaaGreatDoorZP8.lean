/- Contracts: blocks and calls. -/
import Derived.Test.YtpklkpkfgmoghaaGreatDoorZP6
set_option linter.unnecessarySimpa false
set_option linter.unusedVariables false
set_option linter.unusedSimpArgs false
set_option maxRecDepth 20000
namespace Go.Proofs.YtpklkpkfgmoghaaGreatDoor.Zz
noncomputable section
def anf:cm:=⟨⟨[(3,2)],[(1,1),(2,1),(3,2),(4,1),(6,1),(7,3)],[],[((7,3),[(.t 3)])],[((7,1),(.t 3))],[]⟩,[(7,[0,1,2,3,4,5,6,7])],[],false⟩
def ajb:dU:=
 sO [oA 2]
 (.seq (sO [oM 0 4,
 oC 84 [.t 4] 5]
 (.defer (.t 5) []))
 (sO [oM 0 6,
 oC 60 [.t 6,kS [123]] 7]
 (sO [oM 0 8,
 oP (.build zN [(0,1,(kI 6))]) 9,
 oQ (.callR (.f 35) [(.t 8),(.t 9)]) 10,
 oA 3,
 oS 5 3 10]
 (.seq (.block 0 (.loop (.seq (sO [oM 0 11,
 oC 57 [.t 11,kS [125]] 12,
 oP (.un .not (.t 12)) 13]
 (.cond (.t 13)
 (.skip)
 (.exit 0)))
 (.block 1 (.seq (sO [oF 4 3 14,
 oL 14 15,
 oZ 15 16,
 oH .geq 16 32 17]
 (.cond (.t 17)
 (.ops [oM 0 18,
 oC 38 [.t 18,kI 3] 19])
 (.skip)))
 (.fS 20 [oF 4 3 20,
 oQ (.cQ none (.t 20) (.t 3)) 21,
 oM 0 22,
 oQ (.callNe (.f 85) [(.t 22)] [(.t 3)]) 23,
 oP (.buildSlice 5 zN 1 [(0,(.t 23))] false) 24,
 oQ (.append 5 64 false (.t 21) (.t 24)) 25,
 oF 4 3 26,
 oS 1 26 25]))))))
 (sO [oJ 5 3 27,
 oS 5 2 27]
 (.ret))))))
theorem ajX:bA Tryz.prog 62 anf=some (ajb,[.cell 2 (some 5)],28):=by kernel_rfl
def mM (n:Nd) (r:Nat):List D:=match n with
 | .mk k t s m l=>[.int .i64 k,.int .i64 t,.str s,.int .i64 m,fF r l.length]
def jd (h:aa) (n:Nd) (r:Nat):aa:=if n.cu=[] then h else h.set r (.row 5 (n.cu.length+2) (Nd.bg n.cu) false)
theorem uq {l:List Tok} {n n':Nd} {s s':PS} (h:eJ l n s=.ok n' s'):n'=n:=by
 unfold eJ at h
 split at h
 ·cases h
 ·cases h; rfl
theorem pT {α:Type} {b:Bool} {p q:PR α} {K:α→PS→Prop} {E:Int→Int→Prop} (hb:b=false) (h:lg (bif b then p else q) K E):lg q K E:=by subst hb; exact h
theorem j9 {α:Type} {b:Bool} {p q:PR α} {K:α→PS→Prop} {E:Int→Int→Prop} (hb:b=true) (h:lg (bif b then p else q) K E):lg p K E:=by subst hb; exact h
theorem YY (G:List Tok→fg) (hG:∀l,qh (G l)) (hT:(BW G).ok Tryz.prog) (l:List Tok) (hl:yC l) (s:PS) (i1:Nat) (ok:dy l s) (K0:Nd→PS→Prop) (E0:Int→Int→Prop) (hw:lg (vm l (G l) s) (fun x s'=>dy l s'→K0 x s') E0):aH Tryz.prog 62 [.ptr i1 1 0] (aa.emp.set i1 (cK l s)) (nV dq l i1 K0 E0):=by
 refine aH.cv hT (dc:=CB) zP (by kernel_rfl) ajX (by simp) ?_
 rw [cA]
 have hp:=fun (h:aa) (j:Nat) (B C:cJ)=>push_id (id:=i1) h j B C
 have w1:IntKind.i64.wrap (s.deep+1)=s.deep+1:=wrap_i64 (by have:=ok.d0; omega) (by have:=ok.d1; omega)
 unfold vm nh pIn at hw
 rw [aR] at hw
 simp (maxSteps:=1000000) only [ajb,IW,cK,aM,aq,aA,seval]
 intro i2 an ak i3 ax aw az ay
 by_cases c:s.deep+1>40
 ·have g:(s.deep+1>40)=True:=eq_true c
  rw [if_pos c] at hw
  simp (maxSteps:=1000000) only [g,w1,hp,an,ak,ax,aw,az,ay,au,aC,ah,ao,aQ,bj,bm,af,ae,ab,ag,av,aM,aq,aA,seval]
  refine ⟨l,{ s with deep:=s.deep+1 },i1,3,rfl,by simp [cK,an,ak,ax,aw,az,ay],ok.at_,?_⟩
  simp only [Im,aX,true_and]
  refine ⟨rfl,?_⟩
  show gb CB [] (some (p5 _ 3)) _ _
  simp only [ab,av]
  exact aI (s':={ s with deep:=s.deep+1 }) (by simp [cK,an,ak,ax,aw,az,ay]) hw
 ·have g:(s.deep+1>40)=False:=eq_false c
  rw [if_neg c,cU] at hw
  have YI:=zU ok c
  simp only [Mc,aR,cU] at hw
  simp (maxSteps:=1000000) only [g,w1,hp,an,ak,ax,aw,az,ay,au,aC,ah,ao,aQ,bj,bm,af,ae,ab,ag,av,aM,aq,aA,seval]
  generalize HL:({ s with deep:=s.deep+1 }:PS)=sd at*
  have YD:sd.deep=s.deep+1:=by rw [←HL]
  refine ⟨l,sd,i1,[123],rfl,hl.lo,by rw [←HL]; simp [cK,an,ak,ax,aw,az,ay],YI,aF (fun _ cM e1 k iW=>?_) (fun a e k s'=>?_) hw⟩
  case refine_2=>
   simp only [aX,ag,ab,List.nil_append,List.append_nil]
   refine ⟨rfl,i3,i1,l,s',rfl,by simp [an,ak,ax,aw,az,ay],by simp [an,ak,ax,aw,az,ay],?_⟩
   simp only [av]
   exact aI (s':={ s' with deep:=IntKind.i64.wrap (s'.deep - 1) }) (by simp [an,ak,ax,aw,az,ay]) k
  have d1:cM.deep=s.deep+1:=(dN _ _ e1).trans YD
  simp (maxSteps:=1000000) only [yT,hp,an,ak,ax,aw,az,ay,au,aC,ah,ao,aQ,bj,bm,af,ae,ab,ag,av,aM,aq,aA,seval]
  refine .inr ⟨l,cM,i1,.mk 6 0 [] 0 [],rfl,hl.lo,(by simp [an,ak,ax,aw,az,ay]),iW,aF (fun n ff e2 k lR=>?_) (fun a e k s'=>?_) k⟩
  case refine_2=>
   simp only [aX,ag,ab,List.nil_append,List.append_nil]
   refine ⟨rfl,i3,i1,l,s',rfl,by simp [an,ak,ax,aw,az,ay],by simp [an,ak,ax,aw,az,ay],?_⟩
   simp only [av]
   exact aI (s':={ s' with deep:=IntKind.i64.wrap (s'.deep - 1) }) (by simp [an,ak,ax,aw,az,ay]) k
  have d2:ff.deep=s.deep+1:=(cF _ _ e2).trans d1
  have hn:=uq e2
  subst hn
  simp (maxSteps:=1000000) only [zV,hp,an,ak,ax,aw,az,ay,au,aC,ah,ao,aQ,bj,bm,af,ae,ab,ag,av,aM,aq,aA,seval]
  intro i4 aL aP aK aO aJ aN
  refine r_ (X:=Nat×Nd×Nat×PS) [⟨.func 100,[.ptr i3 1 0],[]⟩] (fun z=>[(0,.ptr i1 1 0),(2,.ptr i2 1 0),(3,.ptr i4 1 0)])
   (fun z=>jd ((((aa.emp.set i1 (cK l z.2.2.2)).set i2 (.cells [.int .i64 0,.int .i64 0,.str [],.int .i64 0,.aZ])).set i3 (.cells [.ptr i1 1 0])).set i4 (.cells (mM z.2.1 z.2.2.1))) z.2.1 z.2.2.1) (fun z=>z.1)
   (fun z=>dy l z.2.2.2∧z.2.2.2.deep=s.deep+1∧lg (nN l (G l) z.1 z.2.1 z.2.2.2) (fun x s'=>dy l { s' with deep:=s'.deep - 1 }→K0 x { s' with deep:=s'.deep - 1 }) E0∧(z.2.1.cu≠[]→¬z.2.2.1=i1∧¬z.2.2.1=i2∧¬z.2.2.1=i3∧¬z.2.2.1=i4))
   (l.length+1,.mk 6 0 [] 0 [],0,ff) ⟨lR,d2,k,fun h=>absurd rfl h⟩ (by simp only [aq,aA,seval]) (aa.aj _) ?_
  clear hw HL
  rintro ⟨j,n,r,jL⟩ Q ⟨qQ,d0,hw,hr⟩ hQ
  simp only at qQ d0 hw hr hQ ⊢
  cases j with
  | zero=>exact hw.elim
  | succ j=>
  unfold nN at hw
  rw [aR] at hw
  obtain ⟨nk,nt,ns,nm,nl⟩:=n
  simp only [Nd.cu] at hw hr
  by_cases wD:nl=[]
  ·subst wD
   have hH:∀h:aa,jd h (.mk nk nt ns nm []) r=h:=fun h=>if_pos rfl
   rw [hH,mM,List.length_nil,c_]
   simp (maxSteps:=1000000) only [hp,an,ak,ax,aw,az,ay,aL,aP,aK,aO,aJ,aN,au,aC,ah,ao,aQ,bj,bm,af,ae,ab,ag,av,aM,aq,aA,seval]
   refine ⟨l,jL,i1,[125],rfl,hl.lo,(by simp [an,ak,ax,aw,az,ay,aL,aP,aK,aO,aJ,aN]),qQ,aF (fun b cM e1 k iW=>?_) (fun a e k s'=>?_) hw⟩
   case refine_2=>
    simp only [aX,ag,ab,List.nil_append,List.append_nil]
    refine ⟨rfl,i3,i1,l,s',rfl,by simp [an,ak,ax,aw,az,ay,aL,aP,aK,aO,aJ,aN],by simp [an,ak,ax,aw,az,ay,aL,aP,aK,aO,aJ,aN],?_⟩
    simp only [av]
    exact aI (s':={ s' with deep:=IntKind.i64.wrap (s'.deep - 1) }) (by simp [an,ak,ax,aw,az,ay,aL,aP,aK,aO,aJ,aN]) k
   have d1:cM.deep=s.deep+1:=(bV _ _ e1).trans d0
   cases b with
   | true=>
    rw [cond_true,cU] at k
    have k:=k (jR ok iW d1).1
    have wd:=(jR ok iW d1).2
    simp (maxSteps:=1000000) only [hp,an,ak,ax,aw,az,ay,aL,aP,aK,aO,aJ,aN,au,aC,ah,ao,aQ,bj,bm,af,ae,ab,ag,av,aM,aq,aA,seval]
    refine ⟨rfl,i3,i1,l,cM,rfl,(by simp [an,ak,ax,aw,az,ay,aL,aP,aK,aO,aJ,aN]),(by simp [an,ak,ax,aw,az,ay,aL,aP,aK,aO,aJ,aN]),?_⟩
    rw [wd]
    simp (maxSteps:=1000000) only [hp,an,ak,ax,aw,az,ay,aL,aP,aK,aO,aJ,aN,au,aC,ah,ao,aQ,bj,bm,af,ae,ab,ag,av,aM,aq,aA,seval]
    exact im (x:=.mk nk nt ns nm []) (s':={ cM with deep:=cM.deep - 1 }) (by rw [dq,aB,bc]) (by simp [an,ak,ax,aw,az,ay,aL,aP,aK,aO,aJ,aN]) k
   | false=>
    rw [cond_false] at k
    replace k:lg (((G l).stmt cM).bind fun x s=>nN l (G l) j ((Nd.mk nk nt ns nm []).ea x) s) (fun x s'=>dy l { s' with deep:=s'.deep - 1 }→K0 x { s' with deep:=s'.deep - 1 }) E0:=k
    rw [aR] at k
    simp (maxSteps:=1000000) only [hp,an,ak,ax,aw,az,ay,aL,aP,aK,aO,aJ,aN,au,aC,ah,ao,aQ,bj,bm,af,ae,ab,ag,av,aM,aq,aA,seval]
    refine ⟨l,cM,i1,rfl,hl,(by simp [an,ak,ax,aw,az,ay,aL,aP,aK,aO,aJ,aN]),iW,aF (fun x ff e2 k lR=>?_) (fun a e k s'=>?_) k⟩
    case refine_2=>
     intro σ hσ _
     simp only [aX]
     rw [hσ]
     show gb CB [⟨.func 100,[.ptr i3 1 0],[]⟩] _ _ _
     simp only [ag,ab,List.nil_append]
     refine ⟨rfl,i3,i1,l,s',rfl,by simp [an,ak,ax,aw,az,ay,aL,aP,aK,aO,aJ,aN],by simp [an,ak,ax,aw,az,ay,aL,aP,aK,aO,aJ,aN],?_⟩
     simp only [av]
     exact aI (s':={ s' with deep:=IntKind.i64.wrap (s'.deep - 1) }) (by simp [an,ak,ax,aw,az,ay,aL,aP,aK,aO,aJ,aN]) k
    have d2:ff.deep=s.deep+1:=((hG l).stmt _ x ff e2).trans d1
    simp (maxSteps:=1000000) only [dq,hp,an,ak,ax,aw,az,ay,aL,aP,aK,aO,aJ,aN,au,aC,ah,ao,aQ,bj,bm,af,ae,ab,ag,av,aM,aq,aA,seval]
    intro i5 bK bU bJ bT bI bS bH bR
    simp (maxSteps:=1000000) only [hp,an,ak,ax,aw,az,ay,aL,aP,aK,aO,aJ,aN,bK,bU,bJ,bT,bI,bS,bH,bR,au,aC,ah,ao,aQ,bj,bm,af,ae,ab,ag,av,aM,aq,aA,seval]
    refine hQ (j,.mk nk nt ns nm [x],i5,ff) _ _ ⟨lR,d2,k,fun _=>⟨bH,bI,bJ,bK⟩⟩ (by simp only [aq,aA,seval]) ?_ (by simp only; omega)
    simp only [jd,Nd.cu,mM,List.length_cons,List.length_nil,bO,bc,reduceCtorEq,if_false,bq (Nat.succ_ne_zero 0)]
    exact aa.fm (by repeat' first | with_reducible exact aa.bZ | with_reducible exact aa.cz | refine aa.dS (by simp [an,ak,ax,aw,az,ay,aL,aP,aK,aO,aJ,aN,bK,bU,bJ,bT,bI,bS,bH,bR]) ?_ | refine aa.dT (by simp [an,ak,ax,aw,az,ay,aL,aP,aK,aO,aJ,aN,bK,bU,bJ,bT,bI,bS,bH,bR]) ?_)
  ·obtain ⟨i5,rfl⟩:∃q,q=r:=⟨r,rfl⟩
   obtain ⟨bH,bI,bJ,bK⟩:=hr wD
   have bR:¬i1=i5:=fun e=>bH e.symm
   have bS:¬i2=i5:=fun e=>bI e.symm
   have bT:¬i3=i5:=fun e=>bJ e.symm
   have bU:¬i4=i5:=fun e=>bK e.symm
   have hH:∀h:aa,jd h (.mk nk nt ns nm nl) i5=h.set i5 (.row 5 (nl.length+2) (Nd.bg nl) false):=fun h=>if_neg wD
   have vb:nl.length≠0:=fun e=>wD (List.length_eq_zero_iff.1 e)
   have tk:(Nd.bg nl).take nl.length=Nd.bg nl:=List.take_of_length_le (by rw [aU]; omega)
   rw [hH,mM,bq vb]
   simp (maxSteps:=1000000) only [hp,an,ak,ax,aw,az,ay,aL,aP,aK,aO,aJ,aN,bK,bU,bJ,bT,bI,bS,bH,bR,au,aC,ah,ao,aQ,bj,bm,af,ae,ab,ag,av,aM,aq,aA,seval]
   refine ⟨l,jL,i1,[125],rfl,hl.lo,(by simp [an,ak,ax,aw,az,ay,aL,aP,aK,aO,aJ,aN,bK,bU,bJ,bT,bI,bS,bH,bR]),qQ,aF (fun b cM e1 k iW=>?_) (fun a e k s'=>?_) hw⟩
   case refine_2=>
    simp only [aX,ag,ab,List.nil_append,List.append_nil]
    refine ⟨rfl,i3,i1,l,s',rfl,by simp [an,ak,ax,aw,az,ay,aL,aP,aK,aO,aJ,aN,bK,bU,bJ,bT,bI,bS,bH,bR],by simp [an,ak,ax,aw,az,ay,aL,aP,aK,aO,aJ,aN,bK,bU,bJ,bT,bI,bS,bH,bR],?_⟩
    simp only [av]
    exact aI (s':={ s' with deep:=IntKind.i64.wrap (s'.deep - 1) }) (by simp [an,ak,ax,aw,az,ay,aL,aP,aK,aO,aJ,aN,bK,bU,bJ,bT,bI,bS,bH,bR]) k
   have d1:cM.deep=s.deep+1:=(bV _ _ e1).trans d0
   cases b with
   | true=>
    rw [cond_true,cU] at k
    have k:=k (jR ok iW d1).1
    have wd:=(jR ok iW d1).2
    simp (maxSteps:=1000000) only [hp,an,ak,ax,aw,az,ay,aL,aP,aK,aO,aJ,aN,bK,bU,bJ,bT,bI,bS,bH,bR,au,aC,ah,ao,aQ,bj,bm,af,ae,ab,ag,av,aM,aq,aA,seval]
    refine ⟨rfl,i3,i1,l,cM,rfl,(by simp [an,ak,ax,aw,az,ay,aL,aP,aK,aO,aJ,aN,bK,bU,bJ,bT,bI,bS,bH,bR]),(by simp [an,ak,ax,aw,az,ay,aL,aP,aK,aO,aJ,aN,bK,bU,bJ,bT,bI,bS,bH,bR]),?_⟩
    rw [wd]
    simp (maxSteps:=1000000) only [aU,tk,hp,an,ak,ax,aw,az,ay,aL,aP,aK,aO,aJ,aN,bK,bU,bJ,bT,bI,bS,bH,bR,au,aC,ah,ao,aQ,bj,bm,af,ae,ab,ag,av,aM,aq,aA,seval]
    exact im (x:=.mk nk nt ns nm nl) (s':={ cM with deep:=cM.deep - 1 }) (by rw [dq,aB]) (by simp [an,ak,ax,aw,az,ay,aL,aP,aK,aO,aJ,aN,bK,bU,bJ,bT,bI,bS,bH,bR]) k
   | false=>
    rw [cond_false] at k
    by_cases lO:nl.length≥32
    ·have g3:((nl.length:Int)≥32)=True:=eq_true (by omega)
     have k:lg (jX l 3 cM:PR Nd) (fun x s'=>dy l { s' with deep:=s'.deep - 1 }→K0 x { s' with deep:=s'.deep - 1 }) E0:=by
      exact j9 (by simpa using lO) k
     simp (maxSteps:=1000000) only [g3,aU,hp,an,ak,ax,aw,az,ay,aL,aP,aK,aO,aJ,aN,bK,bU,bJ,bT,bI,bS,bH,bR,au,aC,ah,ao,aQ,bj,bm,af,ae,ab,ag,av,aM,aq,aA,seval]
     intro _
     refine ⟨l,cM,i1,3,rfl,(by simp [an,ak,ax,aw,az,ay,aL,aP,aK,aO,aJ,aN,bK,bU,bJ,bT,bI,bS,bH,bR]),iW.at_,?_⟩
     simp only [aX]
     show gb CB [⟨.func 100,[.ptr i3 1 0],[]⟩] _ _ _
     simp only [ag,ab,List.nil_append]
     refine ⟨rfl,i3,i1,l,cM,rfl,(by simp [an,ak,ax,aw,az,ay,aL,aP,aK,aO,aJ,aN,bK,bU,bJ,bT,bI,bS,bH,bR]),(by simp [an,ak,ax,aw,az,ay,aL,aP,aK,aO,aJ,aN,bK,bU,bJ,bT,bI,bS,bH,bR]),?_⟩
     simp only [av]
     exact aI (s':={ cM with deep:=IntKind.i64.wrap (cM.deep - 1) }) (by simp [an,ak,ax,aw,az,ay,aL,aP,aK,aO,aJ,aN,bK,bU,bJ,bT,bI,bS,bH,bR]) k
    ·have g3:((nl.length:Int)≥32)=False:=eq_false (by omega)
     have k:lg (((G l).stmt cM).bind fun x s=>nN l (G l) j ((Nd.mk nk nt ns nm nl).ea x) s) (fun x s'=>dy l { s' with deep:=s'.deep - 1 }→K0 x { s' with deep:=s'.deep - 1 }) E0:=by
      exact pT (by simpa using lO) k
     rw [aR] at k
     simp (maxSteps:=1000000) only [g3,aU,hp,an,ak,ax,aw,az,ay,aL,aP,aK,aO,aJ,aN,bK,bU,bJ,bT,bI,bS,bH,bR,au,aC,ah,ao,aQ,bj,bm,af,ae,ab,ag,av,aM,aq,aA,seval]
     intro _
     refine ⟨l,cM,i1,rfl,hl,(by simp [an,ak,ax,aw,az,ay,aL,aP,aK,aO,aJ,aN,bK,bU,bJ,bT,bI,bS,bH,bR]),iW,aF (fun x ff e2 k lR=>?_) (fun a e k s'=>?_) k⟩
     case refine_2=>
      intro σ hσ _
      simp only [aX]
      rw [hσ]
      show gb CB [⟨.func 100,[.ptr i3 1 0],[]⟩] _ _ _
      simp only [ag,ab,List.nil_append]
      refine ⟨rfl,i3,i1,l,s',rfl,by simp [an,ak,ax,aw,az,ay,aL,aP,aK,aO,aJ,aN,bK,bU,bJ,bT,bI,bS,bH,bR],by simp [an,ak,ax,aw,az,ay,aL,aP,aK,aO,aJ,aN,bK,bU,bJ,bT,bI,bS,bH,bR],?_⟩
      simp only [av]
      exact aI (s':={ s' with deep:=IntKind.i64.wrap (s'.deep - 1) }) (by simp [an,ak,ax,aw,az,ay,aL,aP,aK,aO,aJ,aN,bK,bU,bJ,bT,bI,bS,bH,bR]) k
     have d2:ff.deep=s.deep+1:=((hG l).stmt _ x ff e2).trans d1
     simp (maxSteps:=1000000) only [dq,aU,hp,an,ak,ax,aw,az,ay,aL,aP,aK,aO,aJ,aN,bK,bU,bJ,bT,bI,bS,bH,bR,au,aC,ah,ao,aQ,bj,bm,af,ae,ab,ag,av,aM,aq,aA,seval]
     refine ⟨by omega,hQ (j,.mk nk nt ns nm (nl++[x]),i5,ff) _ _ ⟨lR,d2,k,fun _=>⟨bH,bI,bJ,bK⟩⟩ (by simp only [aq,aA,seval]) ?_ (by simp only; omega)⟩
     have iy:nl++[x]≠[]:=by simp
     simp only [jd,Nd.cu,mM,List.length_append,List.length_cons,List.length_nil,iy,if_false,←fE,bq (show nl.length+(0+1)≠0 by omega)]
     rw [show nl.length+2+1=nl.length+(0+1)+2 by omega]
     exact aa.fm (by repeat' first | with_reducible exact aa.bZ | with_reducible exact aa.cz | refine aa.dS (by simp [an,ak,ax,aw,az,ay,aL,aP,aK,aO,aJ,aN,bK,bU,bJ,bT,bI,bS,bH,bR]) ?_ | refine aa.dT (by simp [an,ak,ax,aw,az,ay,aL,aP,aK,aO,aJ,aN,bK,bU,bJ,bT,bI,bS,bH,bR]) ?_)
end
end Go.Proofs.YtpklkpkfgmoghaaGreatDoor.Zz
namespace Go.Proofs.YtpklkpkfgmoghaaGreatDoor.Zz
noncomputable section
def aim:cm:=⟨⟨[(2,3)],[(1,1),(2,3),(3,1),(4,1),(6,1),(8,1),(9,3)],[],[((9,3),[(.t 5)])],[((9,1),(.t 5))],[]⟩,[(9,[0,1,2,3,4,5,6,7])],[],false⟩
def ab6:dU:=
 sO [oA 4]
 (.seq (sO [oM 0 6,
 oC 84 [.t 6] 7]
 (.defer (.t 7) []))
 (sO [oM 0 8,
 oM 1 9,
 oP (.build zN [(0,1,(kI 24)),(2,1,(.t 9))]) 10,
 oQ (.callR (.f 35) [(.t 8),(.t 10)]) 11,
 oA 5,
 oS 5 5 11]
 (sO [oM 0 12,
 oC 60 [.t 12,kS [40]] 13]
 (.seq (.block 0 (.loop (.seq (sO [oM 0 14,
 oC 57 [.t 14,kS [41]] 15,
 oP (.un .not (.t 15)) 16]
 (.cond (.t 16)
 (.skip)
 (.exit 0)))
 (.block 1 (.seq (sO [oF 4 5 17,
 oL 17 18,
 oZ 18 19,
 oH .gtr 19 0 20]
 (.cond (.t 20)
 (.ops [oM 0 21,
 oC 60 [.t 21,kS [44]] 22])
 (.skip)))
 (.seq (sO [oF 4 5 23,
 oL 23 24,
 oZ 24 25,
 oH .geq 25 6 26]
 (.cond (.t 26)
 (.ops [oM 0 27,
 oC 38 [.t 27,kI 3] 28])
 (.skip)))
 (.fS 29 [oF 4 5 29,
 oQ (.cQ none (.t 29) (.t 5)) 30,
 oM 0 31,
 oQ (.callNe (.f 102) [(.t 31),(kI 0)] [(.t 5)]) 32,
 oP (.buildSlice 5 zN 1 [(0,(.t 32))] false) 33,
 oQ (.append 5 64 false (.t 30) (.t 33)) 34,
 oF 4 5 35,
 oS 1 35 34])))))))
 (sO [oJ 5 5 36,
 oS 5 4 36]
 (.ret))))))
theorem afA:bA Tryz.prog 104 aim=some (ab6,[.cell 4 (some 5)],37):=by kernel_rfl
set_option maxHeartbeats 1000000 in
theorem adJ (G:List Tok→fg) (hG:∀l,qh (G l)) (hT:(BW G).ok Tryz.prog) (l:List Tok) (hl:yC l) (s:PS) (i1:Nat) (x:List UInt8) (ok:dy l s) (K0:Nd→PS→Prop) (E0:Int→Int→Prop) (hw:lg (Cy l (G l) x s) (fun x s'=>dy l s'→K0 x s') E0):aH Tryz.prog 104 [.ptr i1 1 0,.str x] (aa.emp.set i1 (cK l s)) (nV dq l i1 K0 E0):=by
 refine aH.cv hT (dc:=CB) zP (by kernel_rfl) afA (by simp) ?_
 rw [cA]
 have hp:=fun (h:aa) (j:Nat) (B C:cJ)=>push_id (id:=i1) h j B C
 have w1:IntKind.i64.wrap (s.deep+1)=s.deep+1:=wrap_i64 (by have:=ok.d0; omega) (by have:=ok.d1; omega)
 unfold Cy nh pIn at hw
 rw [aR] at hw
 simp (maxSteps:=1000000) only [ab6,IW,cK,aM,aq,aA,seval]
 intro i2 an ak i3 ax aw az ay
 by_cases c:s.deep+1>40
 ·have g:(s.deep+1>40)=True:=eq_true c
  rw [if_pos c] at hw
  simp (maxSteps:=1000000) only [g,w1,hp,an,ak,ax,aw,az,ay,au,aC,ah,ao,aQ,bj,bm,af,ae,ab,ag,av,aM,aq,aA,seval]
  refine ⟨l,{ s with deep:=s.deep+1 },i1,3,rfl,by simp [cK,an,ak,ax,aw,az,ay],ok.at_,?_⟩
  simp only [Im,aX,true_and]
  refine ⟨rfl,?_⟩
  show gb CB [] (some (p5 _ 3)) _ _
  simp only [ab,av]
  exact aI (s':={ s with deep:=s.deep+1 }) (by simp [cK,an,ak,ax,aw,az,ay]) hw
 ·have g:(s.deep+1>40)=False:=eq_false c
  rw [if_neg c,cU] at hw
  have YI:=zU ok c
  simp only [Mc,aR,cU] at hw
  simp (maxSteps:=1000000) only [g,w1,yT,zV,hp,an,ak,ax,aw,az,ay,au,aC,ah,ao,aQ,bj,bm,af,ae,ab,ag,av,aM,aq,aA,seval]
  generalize HL:({ s with deep:=s.deep+1 }:PS)=sd at*
  have YD:sd.deep=s.deep+1:=by rw [←HL]
  refine .inr ⟨l,sd,i1,.mk 24 0 x 0 [],rfl,hl.lo,by rw [←HL]; simp [cK,an,ak,ax,aw,az,ay],YI,aF (fun n cM e1 k iW=>?_) (fun a e k s'=>?_) hw⟩
  case refine_2=>
   simp only [aX,ag,ab,List.nil_append,List.append_nil]
   refine ⟨rfl,i3,i1,l,s',rfl,by simp [an,ak,ax,aw,az,ay],by simp [an,ak,ax,aw,az,ay],?_⟩
   simp only [av]
   exact aI (s':={ s' with deep:=IntKind.i64.wrap (s'.deep - 1) }) (by simp [an,ak,ax,aw,az,ay]) k
  have d1:cM.deep=s.deep+1:=(cF _ _ e1).trans YD
  have hn:=uq e1
  subst hn
  simp (maxSteps:=1000000) only [zV,hp,an,ak,ax,aw,az,ay,au,aC,ah,ao,aQ,bj,bm,af,ae,ab,ag,av,aM,aq,aA,seval]
  intro i4 aL aP aK aO aJ aN
  refine ⟨l,cM,i1,[40],rfl,hl.lo,(by simp [an,ak,ax,aw,az,ay,aL,aP,aK,aO,aJ,aN]),iW,aF (fun _ ff e2 k lR=>?_) (fun a e k s'=>?_) k⟩
  case refine_2=>
   simp only [aX,ag,ab,List.nil_append,List.append_nil]
   refine ⟨rfl,i3,i1,l,s',rfl,by simp [an,ak,ax,aw,az,ay,aL,aP,aK,aO,aJ,aN],by simp [an,ak,ax,aw,az,ay,aL,aP,aK,aO,aJ,aN],?_⟩
   simp only [av]
   exact aI (s':={ s' with deep:=IntKind.i64.wrap (s'.deep - 1) }) (by simp [an,ak,ax,aw,az,ay,aL,aP,aK,aO,aJ,aN]) k
  have d2:ff.deep=s.deep+1:=(dN _ _ e2).trans d1
  simp (maxSteps:=1000000) only [hp,an,ak,ax,aw,az,ay,aL,aP,aK,aO,aJ,aN,au,aC,ah,ao,aQ,bj,bm,af,ae,ab,ag,av,aM,aq,aA,seval]
  refine r_ (X:=Nat×Nd×Nat×PS) [⟨.func 100,[.ptr i3 1 0],[]⟩] (fun z=>[(0,.ptr i1 1 0),(4,.ptr i2 1 0),(5,.ptr i4 1 0)])
   (fun z=>jd ((((aa.emp.set i1 (cK l z.2.2.2)).set i2 (.cells [.int .i64 0,.int .i64 0,.str [],.int .i64 0,.aZ])).set i3 (.cells [.ptr i1 1 0])).set i4 (.cells (mM z.2.1 z.2.2.1))) z.2.1 z.2.2.1) (fun z=>z.1)
   (fun z=>dy l z.2.2.2∧z.2.2.2.deep=s.deep+1∧lg (sJ l (G l) z.1 z.2.1 z.2.2.2) (fun x s'=>dy l { s' with deep:=s'.deep - 1 }→K0 x { s' with deep:=s'.deep - 1 }) E0∧(z.2.1.cu≠[]→¬z.2.2.1=i1∧¬z.2.2.1=i2∧¬z.2.2.1=i3∧¬z.2.2.1=i4))
   (l.length+1,.mk 24 0 x 0 [],0,ff) ⟨lR,d2,k,fun h=>absurd rfl h⟩ (by simp only [aq,aA,seval]) (aa.aj _) ?_
  clear hw HL
  rintro ⟨j,n,r,jL⟩ Q ⟨qQ,d0,hw,hr⟩ hQ
  simp only at qQ d0 hw hr hQ ⊢
  cases j with
  | zero=>exact hw.elim
  | succ j=>
  unfold sJ at hw
  rw [aR] at hw
  obtain ⟨nk,nt,ns,nm,nl⟩:=n
  simp only [Nd.cu] at hw hr
  by_cases wD:nl=[]
  ·subst wD
   have hH:∀h:aa,jd h (.mk nk nt ns nm []) r=h:=fun h=>if_pos rfl
   rw [hH,mM,List.length_nil,c_]
   simp (maxSteps:=1000000) only [hp,an,ak,ax,aw,az,ay,aL,aP,aK,aO,aJ,aN,au,aC,ah,ao,aQ,bj,bm,af,ae,ab,ag,av,aM,aq,aA,seval]
   refine ⟨l,jL,i1,[41],rfl,hl.lo,(by simp [an,ak,ax,aw,az,ay,aL,aP,aK,aO,aJ,aN]),qQ,aF (fun b cM e1 k iW=>?_) (fun a e k s'=>?_) hw⟩
   case refine_2=>
    simp only [aX,ag,ab,List.nil_append,List.append_nil]
    refine ⟨rfl,i3,i1,l,s',rfl,by simp [an,ak,ax,aw,az,ay,aL,aP,aK,aO,aJ,aN],by simp [an,ak,ax,aw,az,ay,aL,aP,aK,aO,aJ,aN],?_⟩
    simp only [av]
    exact aI (s':={ s' with deep:=IntKind.i64.wrap (s'.deep - 1) }) (by simp [an,ak,ax,aw,az,ay,aL,aP,aK,aO,aJ,aN]) k
   have d1:cM.deep=s.deep+1:=(bV _ _ e1).trans d0
   cases b with
   | true=>
    rw [cond_true,cU] at k
    have k:=k (jR ok iW d1).1
    have wd:=(jR ok iW d1).2
    simp (maxSteps:=1000000) only [hp,an,ak,ax,aw,az,ay,aL,aP,aK,aO,aJ,aN,au,aC,ah,ao,aQ,bj,bm,af,ae,ab,ag,av,aM,aq,aA,seval]
    refine ⟨rfl,i3,i1,l,cM,rfl,(by simp [an,ak,ax,aw,az,ay,aL,aP,aK,aO,aJ,aN]),(by simp [an,ak,ax,aw,az,ay,aL,aP,aK,aO,aJ,aN]),?_⟩
    rw [wd]
    simp (maxSteps:=1000000) only [hp,an,ak,ax,aw,az,ay,aL,aP,aK,aO,aJ,aN,au,aC,ah,ao,aQ,bj,bm,af,ae,ab,ag,av,aM,aq,aA,seval]
    exact im (x:=.mk nk nt ns nm []) (s':={ cM with deep:=cM.deep - 1 }) (by rw [dq,aB,bc]) (by simp [an,ak,ax,aw,az,ay,aL,aP,aK,aO,aJ,aN]) k
   | false=>
    rw [cond_false] at k
    replace k:lg (((G l).expr 0 cM).bind fun x s=>sJ l (G l) j ((Nd.mk nk nt ns nm []).ea x) s) (fun x s'=>dy l { s' with deep:=s'.deep - 1 }→K0 x { s' with deep:=s'.deep - 1 }) E0:=k
    rw [aR] at k
    simp (maxSteps:=1000000) only [hp,an,ak,ax,aw,az,ay,aL,aP,aK,aO,aJ,aN,au,aC,ah,ao,aQ,bj,bm,af,ae,ab,ag,av,aM,aq,aA,seval]
    refine ⟨l,cM,i1,0,rfl,hl,(by simp [an,ak,ax,aw,az,ay,aL,aP,aK,aO,aJ,aN]),iW,aF (fun y ff e2 k lR=>?_) (fun a e k s'=>?_) k⟩
    case refine_2=>
     intro σ hσ _
     simp only [aX]
     rw [hσ]
     show gb CB [⟨.func 100,[.ptr i3 1 0],[]⟩] _ _ _
     simp only [ag,ab,List.nil_append]
     refine ⟨rfl,i3,i1,l,s',rfl,by simp [an,ak,ax,aw,az,ay,aL,aP,aK,aO,aJ,aN],by simp [an,ak,ax,aw,az,ay,aL,aP,aK,aO,aJ,aN],?_⟩
     simp only [av]
     exact aI (s':={ s' with deep:=IntKind.i64.wrap (s'.deep - 1) }) (by simp [an,ak,ax,aw,az,ay,aL,aP,aK,aO,aJ,aN]) k
    have d2:ff.deep=s.deep+1:=((hG l).expr _ _ y ff e2).trans d1
    simp (maxSteps:=1000000) only [dq,hp,an,ak,ax,aw,az,ay,aL,aP,aK,aO,aJ,aN,au,aC,ah,ao,aQ,bj,bm,af,ae,ab,ag,av,aM,aq,aA,seval]
    intro i5 bK bU bJ bT bI bS bH bR
    simp (maxSteps:=1000000) only [hp,an,ak,ax,aw,az,ay,aL,aP,aK,aO,aJ,aN,bK,bU,bJ,bT,bI,bS,bH,bR,au,aC,ah,ao,aQ,bj,bm,af,ae,ab,ag,av,aM,aq,aA,seval]
    refine hQ (j,.mk nk nt ns nm [y],i5,ff) _ _ ⟨lR,d2,k,fun _=>⟨bH,bI,bJ,bK⟩⟩ (by simp only [aq,aA,seval]) ?_ (by simp only; omega)
    simp only [jd,Nd.cu,mM,List.length_cons,List.length_nil,bO,bc,reduceCtorEq,if_false,bq (Nat.succ_ne_zero 0)]
    exact aa.fm (by repeat' first | with_reducible exact aa.bZ | with_reducible exact aa.cz | refine aa.dS (by simp [an,ak,ax,aw,az,ay,aL,aP,aK,aO,aJ,aN,bK,bU,bJ,bT,bI,bS,bH,bR]) ?_ | refine aa.dT (by simp [an,ak,ax,aw,az,ay,aL,aP,aK,aO,aJ,aN,bK,bU,bJ,bT,bI,bS,bH,bR]) ?_)
  ·obtain ⟨i5,rfl⟩:∃q,q=r:=⟨r,rfl⟩
   obtain ⟨bH,bI,bJ,bK⟩:=hr wD
   have bR:¬i1=i5:=fun e=>bH e.symm
   have bS:¬i2=i5:=fun e=>bI e.symm
   have bT:¬i3=i5:=fun e=>bJ e.symm
   have bU:¬i4=i5:=fun e=>bK e.symm
   have hH:∀h:aa,jd h (.mk nk nt ns nm nl) i5=h.set i5 (.row 5 (nl.length+2) (Nd.bg nl) false):=fun h=>if_neg wD
   have vb:nl.length≠0:=fun e=>wD (List.length_eq_zero_iff.1 e)
   have tk:(Nd.bg nl).take nl.length=Nd.bg nl:=List.take_of_length_le (by rw [aU]; omega)
   rw [hH,mM,bq vb]
   simp (maxSteps:=1000000) only [hp,an,ak,ax,aw,az,ay,aL,aP,aK,aO,aJ,aN,bK,bU,bJ,bT,bI,bS,bH,bR,au,aC,ah,ao,aQ,bj,bm,af,ae,ab,ag,av,aM,aq,aA,seval]
   refine ⟨l,jL,i1,[41],rfl,hl.lo,(by simp [an,ak,ax,aw,az,ay,aL,aP,aK,aO,aJ,aN,bK,bU,bJ,bT,bI,bS,bH,bR]),qQ,aF (fun b cM e1 k iW=>?_) (fun a e k s'=>?_) hw⟩
   case refine_2=>
    simp only [aX,ag,ab,List.nil_append,List.append_nil]
    refine ⟨rfl,i3,i1,l,s',rfl,by simp [an,ak,ax,aw,az,ay,aL,aP,aK,aO,aJ,aN,bK,bU,bJ,bT,bI,bS,bH,bR],by simp [an,ak,ax,aw,az,ay,aL,aP,aK,aO,aJ,aN,bK,bU,bJ,bT,bI,bS,bH,bR],?_⟩
    simp only [av]
    exact aI (s':={ s' with deep:=IntKind.i64.wrap (s'.deep - 1) }) (by simp [an,ak,ax,aw,az,ay,aL,aP,aK,aO,aJ,aN,bK,bU,bJ,bT,bI,bS,bH,bR]) k
   have d1:cM.deep=s.deep+1:=(bV _ _ e1).trans d0
   cases b with
   | true=>
    rw [cond_true,cU] at k
    have k:=k (jR ok iW d1).1
    have wd:=(jR ok iW d1).2
    simp (maxSteps:=1000000) only [hp,an,ak,ax,aw,az,ay,aL,aP,aK,aO,aJ,aN,bK,bU,bJ,bT,bI,bS,bH,bR,au,aC,ah,ao,aQ,bj,bm,af,ae,ab,ag,av,aM,aq,aA,seval]
    refine ⟨rfl,i3,i1,l,cM,rfl,(by simp [an,ak,ax,aw,az,ay,aL,aP,aK,aO,aJ,aN,bK,bU,bJ,bT,bI,bS,bH,bR]),(by simp [an,ak,ax,aw,az,ay,aL,aP,aK,aO,aJ,aN,bK,bU,bJ,bT,bI,bS,bH,bR]),?_⟩
    rw [wd]
    simp (maxSteps:=1000000) only [aU,tk,hp,an,ak,ax,aw,az,ay,aL,aP,aK,aO,aJ,aN,bK,bU,bJ,bT,bI,bS,bH,bR,au,aC,ah,ao,aQ,bj,bm,af,ae,ab,ag,av,aM,aq,aA,seval]
    exact im (x:=.mk nk nt ns nm nl) (s':={ cM with deep:=cM.deep - 1 }) (by rw [dq,aB]) (by simp [an,ak,ax,aw,az,ay,aL,aP,aK,aO,aJ,aN,bK,bU,bJ,bT,bI,bS,bH,bR]) k
   | false=>
    rw [cond_false,aR] at k
    have g0:((nl.length:Int)>0)=True:=eq_true (by omega)
    replace k:=j9 (p:=gP l [44] cM) (by simp; omega) k
    simp (maxSteps:=1000000) only [g0,aU,hp,an,ak,ax,aw,az,ay,aL,aP,aK,aO,aJ,aN,bK,bU,bJ,bT,bI,bS,bH,bR,au,aC,ah,ao,aQ,bj,bm,af,ae,ab,ag,av,aM,aq,aA,seval]
    intro _
    refine ⟨l,cM,i1,[44],rfl,hl.lo,(by simp [an,ak,ax,aw,az,ay,aL,aP,aK,aO,aJ,aN,bK,bU,bJ,bT,bI,bS,bH,bR]),iW,aF (fun _ ff e2 k lR=>?_) (fun a e k s'=>?_) k⟩
    case refine_2=>
     simp only [aX,ag,ab,List.nil_append,List.append_nil]
     refine ⟨rfl,i3,i1,l,s',rfl,by simp [an,ak,ax,aw,az,ay,aL,aP,aK,aO,aJ,aN,bK,bU,bJ,bT,bI,bS,bH,bR],by simp [an,ak,ax,aw,az,ay,aL,aP,aK,aO,aJ,aN,bK,bU,bJ,bT,bI,bS,bH,bR],?_⟩
     simp only [av]
     exact aI (s':={ s' with deep:=IntKind.i64.wrap (s'.deep - 1) }) (by simp [an,ak,ax,aw,az,ay,aL,aP,aK,aO,aJ,aN,bK,bU,bJ,bT,bI,bS,bH,bR]) k
    have d2:ff.deep=s.deep+1:=(dN _ _ e2).trans d1
    by_cases lO:nl.length≥6
    ·have g3:((nl.length:Int)≥6)=True:=eq_true (by omega)
     replace k:=j9 (p:=jX l 3 ff) (by simpa [Nd.cu] using lO) k
     simp (maxSteps:=1000000) only [g3,aU,hp,an,ak,ax,aw,az,ay,aL,aP,aK,aO,aJ,aN,bK,bU,bJ,bT,bI,bS,bH,bR,au,aC,ah,ao,aQ,bj,bm,af,ae,ab,ag,av,aM,aq,aA,seval]
     intro _
     refine ⟨l,ff,i1,3,rfl,(by simp [an,ak,ax,aw,az,ay,aL,aP,aK,aO,aJ,aN,bK,bU,bJ,bT,bI,bS,bH,bR]),lR.at_,?_⟩
     simp only [aX]
     show gb CB [⟨.func 100,[.ptr i3 1 0],[]⟩] _ _ _
     simp only [ag,ab,List.nil_append]
     refine ⟨rfl,i3,i1,l,ff,rfl,(by simp [an,ak,ax,aw,az,ay,aL,aP,aK,aO,aJ,aN,bK,bU,bJ,bT,bI,bS,bH,bR]),(by simp [an,ak,ax,aw,az,ay,aL,aP,aK,aO,aJ,aN,bK,bU,bJ,bT,bI,bS,bH,bR]),?_⟩
     simp only [av]
     exact aI (s':={ ff with deep:=IntKind.i64.wrap (ff.deep - 1) }) (by simp [an,ak,ax,aw,az,ay,aL,aP,aK,aO,aJ,aN,bK,bU,bJ,bT,bI,bS,bH,bR]) k
    ·have g3:((nl.length:Int)≥6)=False:=eq_false (by omega)
     replace k:=pT (q:=((G l).expr 0 ff).bind fun x s=>sJ l (G l) j ((Nd.mk nk nt ns nm nl).ea x) s) (by simpa [Nd.cu] using lO) k
     rw [aR] at k
     simp (maxSteps:=1000000) only [g3,aU,hp,an,ak,ax,aw,az,ay,aL,aP,aK,aO,aJ,aN,bK,bU,bJ,bT,bI,bS,bH,bR,au,aC,ah,ao,aQ,bj,bm,af,ae,ab,ag,av,aM,aq,aA,seval]
     intro _
     refine ⟨l,ff,i1,0,rfl,hl,(by simp [an,ak,ax,aw,az,ay,aL,aP,aK,aO,aJ,aN,bK,bU,bJ,bT,bI,bS,bH,bR]),lR,aF (fun y fP e3 k p_=>?_) (fun a e k s'=>?_) k⟩
     case refine_2=>
      intro σ hσ _
      simp only [aX]
      rw [hσ]
      show gb CB [⟨.func 100,[.ptr i3 1 0],[]⟩] _ _ _
      simp only [ag,ab,List.nil_append]
      refine ⟨rfl,i3,i1,l,s',rfl,by simp [an,ak,ax,aw,az,ay,aL,aP,aK,aO,aJ,aN,bK,bU,bJ,bT,bI,bS,bH,bR],by simp [an,ak,ax,aw,az,ay,aL,aP,aK,aO,aJ,aN,bK,bU,bJ,bT,bI,bS,bH,bR],?_⟩
      simp only [av]
      exact aI (s':={ s' with deep:=IntKind.i64.wrap (s'.deep - 1) }) (by simp [an,ak,ax,aw,az,ay,aL,aP,aK,aO,aJ,aN,bK,bU,bJ,bT,bI,bS,bH,bR]) k
     have d3:fP.deep=s.deep+1:=((hG l).expr _ _ y fP e3).trans d2
     simp (maxSteps:=1000000) only [dq,aU,hp,an,ak,ax,aw,az,ay,aL,aP,aK,aO,aJ,aN,bK,bU,bJ,bT,bI,bS,bH,bR,au,aC,ah,ao,aQ,bj,bm,af,ae,ab,ag,av,aM,aq,aA,seval]
     refine ⟨by omega,hQ (j,.mk nk nt ns nm (nl++[y]),i5,fP) _ _ ⟨p_,d3,k,fun _=>⟨bH,bI,bJ,bK⟩⟩ (by simp only [aq,aA,seval]) ?_ (by simp only; omega)⟩
     have iy:nl++[y]≠[]:=by simp
     simp only [jd,Nd.cu,mM,List.length_append,List.length_cons,List.length_nil,iy,if_false,←fE,bq (show nl.length+(0+1)≠0 by omega)]
     rw [show nl.length+2+1=nl.length+(0+1)+2 by omega]
     exact aa.fm (by repeat' first | with_reducible exact aa.bZ | with_reducible exact aa.cz | refine aa.dS (by simp [an,ak,ax,aw,az,ay,aL,aP,aK,aO,aJ,aN,bK,bU,bJ,bT,bI,bS,bH,bR]) ?_ | refine aa.dT (by simp [an,ak,ax,aw,az,ay,aL,aP,aK,aO,aJ,aN,bK,bU,bJ,bT,bI,bS,bH,bR]) ?_)
end
end Go.Proofs.YtpklkpkfgmoghaaGreatDoor.Zz
