/- Contracts: calls. -/
import Derived.Test.YtpklkpkfgmoghaaGreatDoorZP7
set_option linter.unnecessarySimpa false
set_option linter.unusedVariables false
set_option linter.unusedSimpArgs false
set_option maxRecDepth 20000
namespace Go.Proofs.YtpklkpkfgmoghaaGreatDoor.Zz
noncomputable section
def aap:cj:=⟨⟨[(2,3)],[(1,1),(2,3),(3,1),(4,1),(6,1),(8,1),(9,3)],[],[((9,3),[(.t 5)])],[((9,1),(.t 5))],[]⟩,[(9,[0,1,2,3,4,5,6,7])],[],false⟩
def UI:dL:=
 sO [oA 4]
 (.seq (sO [oM 0 6,
 oC 84 [.t 6] 7]
 (.defer (.t 7) []))
 (sO [oM 0 8,
 oM 1 9,
 oP (.build zN [(0,1,(kI 24)),(2,1,(.t 9))]) 10,
 oQ (.callR (.f 35) [(.t 8),(.t 10)]) 11,
 oA 5,
 oS 5 5 11]
 (sO [oM 0 12,
 oC 60 [.t 12,kS [40]] 13]
 (.seq (.block 0 (.loop (.seq (sO [oM 0 14,
 oC 57 [.t 14,kS [41]] 15,
 oP (.un .not (.t 15)) 16]
 (.cond (.t 16)
 (.skip)
 (.exit 0)))
 (.block 1 (.seq (sO [oF 4 5 17,
 oL 17 18,
 oZ 18 19,
 oH .gtr 19 0 20]
 (.cond (.t 20)
 (.ops [oM 0 21,
 oC 60 [.t 21,kS [44]] 22])
 (.skip)))
 (.seq (sO [oF 4 5 23,
 oL 23 24,
 oZ 24 25,
 oH .geq 25 6 26]
 (.cond (.t 26)
 (.ops [oM 0 27,
 oC 38 [.t 27,kI 3] 28])
 (.skip)))
 (.fD 29 [oF 4 5 29,
 oQ (.cT none (.t 29) (.t 5)) 30,
 oM 0 31,
 oQ (.callNe (.f 102) [(.t 31),(kI 0)] [(.t 5)]) 32,
 oP (.buildSlice 5 zN 1 [(0,(.t 32))] false) 33,
 oQ (.append 5 64 false (.t 30) (.t 33)) 34,
 oF 4 5 35,
 oS 1 35 34])))))))
 (sO [oJ 5 5 36,
 oS 5 4 36]
 (.ret))))))
theorem XE:bJ Tryz.prog 104 aap=some (UI,[.cell 4 (some 5)],37):=by kernel_rfl
set_option maxHeartbeats 1000000 in
theorem VT (G:List cH→ee) (hG:∀l,nn (G l)) (hT:(xM G).ok Tryz.prog) (l:List cH) (hl:uL l) (s:PS) (i1:Nat) (x:List UInt8) (ok:cJ l s) (K0:Nd→PS→Prop) (E0:Int→Int→Prop) (hw:jG (yA l (G l) x s) (fun x s'=>cJ l s'→K0 x s') E0):aQ Tryz.prog 104 [.ptr i1 1 0,.str x] (aa.emp.set i1 (b9 l s)) (lF cG l i1 K0 E0):=by
 refine aQ.du hT (dc:=yC) vz (by kernel_rfl) XE (by simp) ?_
 rw [dK]
 have hp:=fun (h:aa) (j:Nat) (B C:cR)=>push_id (id:=i1) h j B C
 have w1:IntKind.i64.wrap (s.deep+1)=s.deep+1:=wrap_i64 (by have:=ok.d0; omega) (by have:=ok.d1; omega)
 unfold yA kW Uv at hw
 rw [aG] at hw
 simp (maxSteps:=1000000) only [UI,En,b9,aE,ao,aD,seval]
 intro i2 an al i3 aw au av ar
 by_cases c:s.deep+1>40
 ·have g:(s.deep+1>40)=True:=eq_true c
  rw [if_pos c] at hw
  simp (maxSteps:=1000000) only [g,w1,hp,an,al,aw,au,av,ar,aq,ay,aj,ak,aF,aW,aY,ah,af,ae,ag,az,aE,ao,aD,seval]
  refine ⟨l,{ s with deep:=s.deep+1 },i1,3,rfl,by simp [b9,an,al,aw,au,av,ar],ok.at_,?_⟩
  simp only [DQ,bB,true_and]
  refine ⟨rfl,?_⟩
  show eT yC [] (some (mZ _ 3)) _ _
  simp only [ae,az]
  exact aC (s':={ s with deep:=s.deep+1 }) (by simp [b9,an,al,aw,au,av,ar]) hw
 ·have g:(s.deep+1>40)=False:=eq_false c
  rw [if_neg c,cu] at hw
  have RB:=vD ok c
  simp only [GO,aG,cu] at hw
  simp (maxSteps:=1000000) only [g,w1,uV,vE,hp,an,al,aw,au,av,ar,aq,ay,aj,ak,aF,aW,aY,ah,af,ae,ag,az,aE,ao,aD,seval]
  generalize Df:({ s with deep:=s.deep+1 }:PS)=sd at*
  have Rv:sd.deep=s.deep+1:=by rw [←Df]
  refine .inr ⟨l,sd,i1,.mk 24 0 x 0 [],rfl,hl.lo,by rw [←Df]; simp [b9,an,al,aw,au,av,ar],RB,aA (fun n cg e1 k gm=>?_) (fun a e k s'=>?_) hw⟩
  case refine_2=>
   simp only [bB,ag,ae,List.nil_append,List.append_nil]
   refine ⟨rfl,i3,i1,l,s',rfl,by simp [an,al,aw,au,av,ar],by simp [an,al,aw,au,av,ar],?_⟩
   simp only [az]
   exact aC (s':={ s' with deep:=IntKind.i64.wrap (s'.deep - 1) }) (by simp [an,al,aw,au,av,ar]) k
  have d1:cg.deep=s.deep+1:=(bY _ _ e1).trans Rv
  have hn:=qY e1
  subst hn
  simp (maxSteps:=1000000) only [vE,hp,an,al,aw,au,av,ar,aq,ay,aj,ak,aF,aW,aY,ah,af,ae,ag,az,aE,ao,aD,seval]
  intro i4 aJ aM aI aL aH aK
  refine ⟨l,cg,i1,[40],rfl,hl.lo,(by simp [an,al,aw,au,av,ar,aJ,aM,aI,aL,aH,aK]),gm,aA (fun _ ea e2 k j5=>?_) (fun a e k s'=>?_) k⟩
  case refine_2=>
   simp only [bB,ag,ae,List.nil_append,List.append_nil]
   refine ⟨rfl,i3,i1,l,s',rfl,by simp [an,al,aw,au,av,ar,aJ,aM,aI,aL,aH,aK],by simp [an,al,aw,au,av,ar,aJ,aM,aI,aL,aH,aK],?_⟩
   simp only [az]
   exact aC (s':={ s' with deep:=IntKind.i64.wrap (s'.deep - 1) }) (by simp [an,al,aw,au,av,ar,aJ,aM,aI,aL,aH,aK]) k
  have d2:ea.deep=s.deep+1:=(cX _ _ e2).trans d1
  simp (maxSteps:=1000000) only [hp,an,al,aw,au,av,ar,aJ,aM,aI,aL,aH,aK,aq,ay,aj,ak,aF,aW,aY,ah,af,ae,ag,az,aE,ao,aD,seval]
  refine sS (X:=Nat×Nd×Nat×PS) [⟨.func 100,[.ptr i3 1 0],[]⟩] (fun z=>[(0,.ptr i1 1 0),(4,.ptr i2 1 0),(5,.ptr i4 1 0)])
   (fun z=>gC ((((aa.emp.set i1 (b9 l z.2.2.2)).set i2 (.cells [.int .i64 0,.int .i64 0,.str [],.int .i64 0,.bg])).set i3 (.cells [.ptr i1 1 0])).set i4 (.cells (kF z.2.1 z.2.2.1))) z.2.1 z.2.2.1) (fun z=>z.1)
   (fun z=>cJ l z.2.2.2∧z.2.2.2.deep=s.deep+1∧jG (pA l (G l) z.1 z.2.1 z.2.2.2) (fun x s'=>cJ l { s' with deep:=s'.deep - 1 }→K0 x { s' with deep:=s'.deep - 1 }) E0∧(z.2.1.bR≠[]→¬z.2.2.1=i1∧¬z.2.2.1=i2∧¬z.2.2.1=i3∧¬z.2.2.1=i4))
   (l.length+1,.mk 24 0 x 0 [],0,ea) ⟨j5,d2,k,fun h=>absurd rfl h⟩ (by simp only [ao,aD,seval]) (aa.aU _) ?_
  clear hw Df
  rintro ⟨j,n,r,hU⟩ Q ⟨nT,d0,hw,hr⟩ hQ
  simp only at nT d0 hw hr hQ ⊢
  cases j with
  | zero=>exact hw.elim
  | succ j=>
  unfold pA at hw
  rw [aG] at hw
  obtain ⟨nk,nt,ns,nm,nl⟩:=n
  simp only [Nd.bR] at hw hr
  by_cases tf:nl=[]
  ·subst tf
   have hH:∀h:aa,gC h (.mk nk nt ns nm []) r=h:=fun h=>if_pos rfl
   rw [hH,kF,List.length_nil,fX]
   simp (maxSteps:=1000000) only [hp,an,al,aw,au,av,ar,aJ,aM,aI,aL,aH,aK,aq,ay,aj,ak,aF,aW,aY,ah,af,ae,ag,az,aE,ao,aD,seval]
   refine ⟨l,hU,i1,[41],rfl,hl.lo,(by simp [an,al,aw,au,av,ar,aJ,aM,aI,aL,aH,aK]),nT,aA (fun b cg e1 k gm=>?_) (fun a e k s'=>?_) hw⟩
   case refine_2=>
    simp only [bB,ag,ae,List.nil_append,List.append_nil]
    refine ⟨rfl,i3,i1,l,s',rfl,by simp [an,al,aw,au,av,ar,aJ,aM,aI,aL,aH,aK],by simp [an,al,aw,au,av,ar,aJ,aM,aI,aL,aH,aK],?_⟩
    simp only [az]
    exact aC (s':={ s' with deep:=IntKind.i64.wrap (s'.deep - 1) }) (by simp [an,al,aw,au,av,ar,aJ,aM,aI,aL,aH,aK]) k
   have d1:cg.deep=s.deep+1:=(bH _ _ e1).trans d0
   cases b with
   | true=>
    rw [cond_true,cu] at k
    have k:=k (ib ok gm d1).1
    have wd:=(ib ok gm d1).2
    simp (maxSteps:=1000000) only [hp,an,al,aw,au,av,ar,aJ,aM,aI,aL,aH,aK,aq,ay,aj,ak,aF,aW,aY,ah,af,ae,ag,az,aE,ao,aD,seval]
    refine ⟨rfl,i3,i1,l,cg,rfl,(by simp [an,al,aw,au,av,ar,aJ,aM,aI,aL,aH,aK]),(by simp [an,al,aw,au,av,ar,aJ,aM,aI,aL,aH,aK]),?_⟩
    rw [wd]
    simp (maxSteps:=1000000) only [hp,an,al,aw,au,av,ar,aJ,aM,aI,aL,aH,aK,aq,ay,aj,ak,aF,aW,aY,ah,af,ae,ag,az,aE,ao,aD,seval]
    exact fU (x:=.mk nk nt ns nm []) (s':={ cg with deep:=cg.deep - 1 }) (by rw [cG,aT,bA]) (by simp [an,al,aw,au,av,ar,aJ,aM,aI,aL,aH,aK]) k
   | false=>
    rw [cond_false] at k
    replace k:jG (((G l).expr 0 cg).bind fun x s=>pA l (G l) j ((Nd.mk nk nt ns nm []).dw x) s) (fun x s'=>cJ l { s' with deep:=s'.deep - 1 }→K0 x { s' with deep:=s'.deep - 1 }) E0:=k
    rw [aG] at k
    simp (maxSteps:=1000000) only [hp,an,al,aw,au,av,ar,aJ,aM,aI,aL,aH,aK,aq,ay,aj,ak,aF,aW,aY,ah,af,ae,ag,az,aE,ao,aD,seval]
    refine ⟨l,cg,i1,0,rfl,hl,(by simp [an,al,aw,au,av,ar,aJ,aM,aI,aL,aH,aK]),gm,aA (fun y ea e2 k j5=>?_) (fun a e k s'=>?_) k⟩
    case refine_2=>
     intro σ hσ _
     simp only [bB]
     rw [hσ]
     show eT yC [⟨.func 100,[.ptr i3 1 0],[]⟩] _ _ _
     simp only [ag,ae,List.nil_append]
     refine ⟨rfl,i3,i1,l,s',rfl,by simp [an,al,aw,au,av,ar,aJ,aM,aI,aL,aH,aK],by simp [an,al,aw,au,av,ar,aJ,aM,aI,aL,aH,aK],?_⟩
     simp only [az]
     exact aC (s':={ s' with deep:=IntKind.i64.wrap (s'.deep - 1) }) (by simp [an,al,aw,au,av,ar,aJ,aM,aI,aL,aH,aK]) k
    have d2:ea.deep=s.deep+1:=((hG l).expr _ _ y ea e2).trans d1
    simp (maxSteps:=1000000) only [cG,hp,an,al,aw,au,av,ar,aJ,aM,aI,aL,aH,aK,aq,ay,aj,ak,aF,aW,aY,ah,af,ae,ag,az,aE,ao,aD,seval]
    intro i5 bx bG bu bF bt bE br bD
    simp (maxSteps:=1000000) only [hp,an,al,aw,au,av,ar,aJ,aM,aI,aL,aH,aK,bx,bG,bu,bF,bt,bE,br,bD,aq,ay,aj,ak,aF,aW,aY,ah,af,ae,ag,az,aE,ao,aD,seval]
    refine hQ (j,.mk nk nt ns nm [y],i5,ea) _ _ ⟨j5,d2,k,fun _=>⟨br,bt,bu,bx⟩⟩ (by simp only [ao,aD,seval]) ?_ (by simp only; omega)
    simp only [gC,Nd.bR,kF,List.length_cons,List.length_nil,cz,bA,reduceCtorEq,if_false,cB (Nat.succ_ne_zero 0)]
    exact aa.dV (by repeat' first | ax exact aa.bK | ax exact aa.bO | refine aa.cU (by simp [an,al,aw,au,av,ar,aJ,aM,aI,aL,aH,aK,bx,bG,bu,bF,bt,bE,br,bD]) ?_ | refine aa.cZ (by simp [an,al,aw,au,av,ar,aJ,aM,aI,aL,aH,aK,bx,bG,bu,bF,bt,bE,br,bD]) ?_)
  ·obtain ⟨i5,rfl⟩:∃q,q=r:=⟨r,rfl⟩
   obtain ⟨br,bt,bu,bx⟩:=hr tf
   have bD:¬i1=i5:=fun e=>br e.symm
   have bE:¬i2=i5:=fun e=>bt e.symm
   have bF:¬i3=i5:=fun e=>bu e.symm
   have bG:¬i4=i5:=fun e=>bx e.symm
   have hH:∀h:aa,gC h (.mk nk nt ns nm nl) i5=h.set i5 (.row 5 (nl.length+2) (Nd.cW nl) false):=fun h=>if_neg tf
   have FL:nl.length≠0:=fun e=>tf (List.length_eq_zero_iff.1 e)
   have tk:(Nd.cW nl).take nl.length=Nd.cW nl:=List.take_of_length_le (by rw [aX]; omega)
   rw [hH,kF,cB FL]
   simp (maxSteps:=1000000) only [hp,an,al,aw,au,av,ar,aJ,aM,aI,aL,aH,aK,bx,bG,bu,bF,bt,bE,br,bD,aq,ay,aj,ak,aF,aW,aY,ah,af,ae,ag,az,aE,ao,aD,seval]
   refine ⟨l,hU,i1,[41],rfl,hl.lo,(by simp [an,al,aw,au,av,ar,aJ,aM,aI,aL,aH,aK,bx,bG,bu,bF,bt,bE,br,bD]),nT,aA (fun b cg e1 k gm=>?_) (fun a e k s'=>?_) hw⟩
   case refine_2=>
    simp only [bB,ag,ae,List.nil_append,List.append_nil]
    refine ⟨rfl,i3,i1,l,s',rfl,by simp [an,al,aw,au,av,ar,aJ,aM,aI,aL,aH,aK,bx,bG,bu,bF,bt,bE,br,bD],by simp [an,al,aw,au,av,ar,aJ,aM,aI,aL,aH,aK,bx,bG,bu,bF,bt,bE,br,bD],?_⟩
    simp only [az]
    exact aC (s':={ s' with deep:=IntKind.i64.wrap (s'.deep - 1) }) (by simp [an,al,aw,au,av,ar,aJ,aM,aI,aL,aH,aK,bx,bG,bu,bF,bt,bE,br,bD]) k
   have d1:cg.deep=s.deep+1:=(bH _ _ e1).trans d0
   cases b with
   | true=>
    rw [cond_true,cu] at k
    have k:=k (ib ok gm d1).1
    have wd:=(ib ok gm d1).2
    simp (maxSteps:=1000000) only [hp,an,al,aw,au,av,ar,aJ,aM,aI,aL,aH,aK,bx,bG,bu,bF,bt,bE,br,bD,aq,ay,aj,ak,aF,aW,aY,ah,af,ae,ag,az,aE,ao,aD,seval]
    refine ⟨rfl,i3,i1,l,cg,rfl,(by simp [an,al,aw,au,av,ar,aJ,aM,aI,aL,aH,aK,bx,bG,bu,bF,bt,bE,br,bD]),(by simp [an,al,aw,au,av,ar,aJ,aM,aI,aL,aH,aK,bx,bG,bu,bF,bt,bE,br,bD]),?_⟩
    rw [wd]
    simp (maxSteps:=1000000) only [aX,tk,hp,an,al,aw,au,av,ar,aJ,aM,aI,aL,aH,aK,bx,bG,bu,bF,bt,bE,br,bD,aq,ay,aj,ak,aF,aW,aY,ah,af,ae,ag,az,aE,ao,aD,seval]
    exact fU (x:=.mk nk nt ns nm nl) (s':={ cg with deep:=cg.deep - 1 }) (by rw [cG,aT]) (by simp [an,al,aw,au,av,ar,aJ,aM,aI,aL,aH,aK,bx,bG,bu,bF,bt,bE,br,bD]) k
   | false=>
    rw [cond_false,aG] at k
    have g0:((nl.length:Int)>0)=True:=eq_true (by omega)
    replace k:=iB (p:=fq l [44] cg) (by simp; omega) k
    simp (maxSteps:=1000000) only [g0,aX,hp,an,al,aw,au,av,ar,aJ,aM,aI,aL,aH,aK,bx,bG,bu,bF,bt,bE,br,bD,aq,ay,aj,ak,aF,aW,aY,ah,af,ae,ag,az,aE,ao,aD,seval]
    intro _
    refine ⟨l,cg,i1,[44],rfl,hl.lo,(by simp [an,al,aw,au,av,ar,aJ,aM,aI,aL,aH,aK,bx,bG,bu,bF,bt,bE,br,bD]),gm,aA (fun _ ea e2 k j5=>?_) (fun a e k s'=>?_) k⟩
    case refine_2=>
     simp only [bB,ag,ae,List.nil_append,List.append_nil]
     refine ⟨rfl,i3,i1,l,s',rfl,by simp [an,al,aw,au,av,ar,aJ,aM,aI,aL,aH,aK,bx,bG,bu,bF,bt,bE,br,bD],by simp [an,al,aw,au,av,ar,aJ,aM,aI,aL,aH,aK,bx,bG,bu,bF,bt,bE,br,bD],?_⟩
     simp only [az]
     exact aC (s':={ s' with deep:=IntKind.i64.wrap (s'.deep - 1) }) (by simp [an,al,aw,au,av,ar,aJ,aM,aI,aL,aH,aK,bx,bG,bu,bF,bt,bE,br,bD]) k
    have d2:ea.deep=s.deep+1:=(cX _ _ e2).trans d1
    by_cases jX:nl.length≥6
    ·have g3:((nl.length:Int)≥6)=True:=eq_true (by omega)
     replace k:=iB (p:=il l 3 ea) (by simpa [Nd.bR] using jX) k
     simp (maxSteps:=1000000) only [g3,aX,hp,an,al,aw,au,av,ar,aJ,aM,aI,aL,aH,aK,bx,bG,bu,bF,bt,bE,br,bD,aq,ay,aj,ak,aF,aW,aY,ah,af,ae,ag,az,aE,ao,aD,seval]
     intro _
     refine ⟨l,ea,i1,3,rfl,(by simp [an,al,aw,au,av,ar,aJ,aM,aI,aL,aH,aK,bx,bG,bu,bF,bt,bE,br,bD]),j5.at_,?_⟩
     simp only [bB]
     show eT yC [⟨.func 100,[.ptr i3 1 0],[]⟩] _ _ _
     simp only [ag,ae,List.nil_append]
     refine ⟨rfl,i3,i1,l,ea,rfl,(by simp [an,al,aw,au,av,ar,aJ,aM,aI,aL,aH,aK,bx,bG,bu,bF,bt,bE,br,bD]),(by simp [an,al,aw,au,av,ar,aJ,aM,aI,aL,aH,aK,bx,bG,bu,bF,bt,bE,br,bD]),?_⟩
     simp only [az]
     exact aC (s':={ ea with deep:=IntKind.i64.wrap (ea.deep - 1) }) (by simp [an,al,aw,au,av,ar,aJ,aM,aI,aL,aH,aK,bx,bG,bu,bF,bt,bE,br,bD]) k
    ·have g3:((nl.length:Int)≥6)=False:=eq_false (by omega)
     replace k:=mS (q:=((G l).expr 0 ea).bind fun x s=>pA l (G l) j ((Nd.mk nk nt ns nm nl).dw x) s) (by simpa [Nd.bR] using jX) k
     rw [aG] at k
     simp (maxSteps:=1000000) only [g3,aX,hp,an,al,aw,au,av,ar,aJ,aM,aI,aL,aH,aK,bx,bG,bu,bF,bt,bE,br,bD,aq,ay,aj,ak,aF,aW,aY,ah,af,ae,ag,az,aE,ao,aD,seval]
     intro _
     refine ⟨l,ea,i1,0,rfl,hl,(by simp [an,al,aw,au,av,ar,aJ,aM,aI,aL,aH,aK,bx,bG,bu,bF,bt,bE,br,bD]),j5,aA (fun y eI e3 k nc=>?_) (fun a e k s'=>?_) k⟩
     case refine_2=>
      intro σ hσ _
      simp only [bB]
      rw [hσ]
      show eT yC [⟨.func 100,[.ptr i3 1 0],[]⟩] _ _ _
      simp only [ag,ae,List.nil_append]
      refine ⟨rfl,i3,i1,l,s',rfl,by simp [an,al,aw,au,av,ar,aJ,aM,aI,aL,aH,aK,bx,bG,bu,bF,bt,bE,br,bD],by simp [an,al,aw,au,av,ar,aJ,aM,aI,aL,aH,aK,bx,bG,bu,bF,bt,bE,br,bD],?_⟩
      simp only [az]
      exact aC (s':={ s' with deep:=IntKind.i64.wrap (s'.deep - 1) }) (by simp [an,al,aw,au,av,ar,aJ,aM,aI,aL,aH,aK,bx,bG,bu,bF,bt,bE,br,bD]) k
     have d3:eI.deep=s.deep+1:=((hG l).expr _ _ y eI e3).trans d2
     simp (maxSteps:=1000000) only [cG,aX,hp,an,al,aw,au,av,ar,aJ,aM,aI,aL,aH,aK,bx,bG,bu,bF,bt,bE,br,bD,aq,ay,aj,ak,aF,aW,aY,ah,af,ae,ag,az,aE,ao,aD,seval]
     refine ⟨by omega,hQ (j,.mk nk nt ns nm (nl++[y]),i5,eI) _ _ ⟨nc,d3,k,fun _=>⟨br,bt,bu,bx⟩⟩ (by simp only [ao,aD,seval]) ?_ (by simp only; omega)⟩
     have iC:nl++[y]≠[]:=by simp
     simp only [gC,Nd.bR,kF,List.length_append,List.length_cons,List.length_nil,iC,if_false,←j8,cB (show nl.length+(0+1)≠0 by omega)]
     rw [show nl.length+2+1=nl.length+(0+1)+2 by omega]
     exact aa.dV (by repeat' first | ax exact aa.bK | ax exact aa.bO | refine aa.cU (by simp [an,al,aw,au,av,ar,aJ,aM,aI,aL,aH,aK,bx,bG,bu,bF,bt,bE,br,bD]) ?_ | refine aa.cZ (by simp [an,al,aw,au,av,ar,aJ,aM,aI,aL,aH,aK,bx,bG,bu,bF,bt,bE,br,bD]) ?_)
end
end Go.Proofs.YtpklkpkfgmoghaaGreatDoor.Zz
namespace Go.Proofs.YtpklkpkfgmoghaaGreatDoor.Zz
noncomputable section
def aar:cj:=⟨⟨[],[(4,2),(5,1),(6,3),(6,6),(8,1),(14,3),(15,1),(16,3),(16,6),(17,1),(20,1),(21,1),(22,1),(24,1),(25,1),(26,2),(27,3)],[],[],[],[]⟩,[],[],false⟩
def UJ:dL:=
 sO [oA 2]
 (.seq (sO [oP (.buildSlice 1 [(.str [])] 2 [(0,(kS [45])),(1,(kS [33]))] false) 12,
 oZ 12 13,
 oP (.cy (kI 0)) 14]
 (.block 0 (.loop (sO [oE .lss 14 13 15]
 (.seq (.cond (.t 15)
 (.skip)
 (.exit 0))
 (.seq (.block 1 (sO [oI 1 12 14 16,
 oL 16 17,
 oM 17 4]
 (sO [oM 0 18,
 oM 4 19,
 oC 57 [.t 18,.t 19] 20]
 (.cond (.t 20)
 (.seq (sO [oM 0 21,
 oC 84 [.t 21] 22]
 (.defer (.t 22) []))
 (sO [oM 0 23,
 oM 4 24,
 oM 0 25,
 oC 119 [.t 25] 26,
 oP (.buildSlice 5 zN 1 [(0,(.t 26))] false) 27,
 oP (.build zN [(0,1,(kI 25)),(2,1,(.t 24)),(4,1,(.t 27))]) 28,
 oC 35 [.t 23,.t 28] 29,
 oS 5 2 29]
 (.ret)))
 (.skip)))))
 (.ops [oH .add 14 1 30,
 oM 30 14])))))))
 (.seq (sO [oM 0 32,
 oC 81 [.t 32] 33,
 oM 33 31,
 oX 31 0 34,
 oX 31 1 35,
 oA 5,
 oS 5 5 34,
 oM 35 6]
 (sO [oM 6 36]
 (.cond (.t 36)
 (sO [oJ 5 5 37,
 oS 5 2 37]
 (.ret))
 (.skip))))
 (.seq (sO [oP (.buildSlice 1 [(.int .i64 0)] 2 [(0,(kI 1)),(1,(kI 2))] false) 38,
 oZ 38 39,
 oP (.cy (kI 0)) 40]
 (.block 2 (.loop (sO [oE .lss 40 39 41]
 (.seq (.cond (.t 41)
 (.skip)
 (.exit 2))
 (.seq (.block 3 (sO [oI 1 38 40 42,
 oL 42 43,
 oM 43 8]
 (sO [oM 0 44,
 oM 8 45,
 oD 41 [.t 45] 46,
 oC 57 [.t 44,.t 46] 47]
 (.cond (.t 47)
 (sO [oM 0 48,
 oC 60 [.t 48,kS [40]] 49]
 (sO [oM 0 50,
 oM 8 51,
 oM 0 52,
 oC 102 [.t 52,kI 0] 53,
 oP (.buildSlice 5 zN 1 [(0,(.t 53))] false) 54,
 oP (.build zN [(0,1,(kI 27)),(1,1,(.t 51)),(4,1,(.t 54))]) 55,
 oC 35 [.t 50,.t 55] 56,
 oA 9,
 oS 5 9 56]
 (sO [oM 0 57,
 oC 60 [.t 57,kS [41]] 58]
 (sO [oJ 5 9 59,
 oS 5 2 59]
 (.ret)))))
 (.skip)))))
 (.ops [oH .add 40 1 60,
 oM 60 40])))))))
 (.seq (sO [oM 0 61,
 oC 57 [.t 61,kS [40]] 62]
 (.cond (.t 62)
 (sO [oM 0 63,
 oC 102 [.t 63,kI 0] 64,
 oA 10,
 oS 5 10 64]
 (sO [oM 0 65,
 oC 60 [.t 65,kS [41]] 66]
 (sO [oJ 5 10 67,
 oS 5 2 67]
 (.ret))))
 (.skip)))
 (sO [oM 0 68,
 oC 58 [.t 68] 69,
 oM 69 11]
 (.seq (sO [oM 0 70,
 oC 37 [.t 70,kS [40]] 71]
 (.cond (.t 71)
 (sO [oM 0 72,
 oM 11 73,
 oC 104 [.t 72,.t 73] 74,
 oS 5 2 74]
 (.ret))
 (.skip)))
 (sO [oM 0 75,
 oM 11 76,
 oP (.build zN [(0,1,(kI 23)),(2,1,(.t 76))]) 77,
 oC 35 [.t 75,.t 77] 78,
 oS 5 2 78]
 (.ret))))))))
theorem XG:bJ Tryz.prog 119 aar=some (UJ,[.cell 2 (some 5)],79):=by kernel_rfl
def unA (l:List cH) (g:ee) (s:PS):PR Nd:=(dI l [40] s).bind fun b s=>bif b then (g.expr 0 s).bind fun n s=>(fq l [41] s).bind fun _ s=>.ok n s else
 (iN l s).bind fun x s=>bif lZ l [40] s then g.call x s else dM l (.mk 23 0 x 0 []) s
def unB (l:List cH) (g:ee) (s:PS):PR Nd:=(dI l fP s).bind fun b s=>bif b then pH l g 2 s else unA l g s
def unC (l:List cH) (g:ee) (s:PS):PR Nd:=(dI l mR s).bind fun b s=>bif b then pH l g 1 s else unB l g s
def unD (l:List cH) (g:ee) (s:PS):PR Nd:=(lB l s).bind fun x s=>bif x.2 then .ok x.1 s else unC l g s
def unE (l:List cH) (g:ee) (s:PS):PR Nd:=(dI l [33] s).bind fun b s=>bif b then SE l g [33] s else unD l g s
def unF (l:List cH) (g:ee) (s:PS):PR Nd:=(dI l [45] s).bind fun b s=>bif b then SE l g [45] s else unE l g s
theorem Rd (l:List cH) (g:ee):oz l g=unF l g:=rfl
def unI (l:List cH) (g:ee):Nat→PS→PR Nd
 | 0=>unF l g
 | 1=>unE l g
 | _=>unD l g
def unJ (l:List cH) (g:ee):Nat→PS→PR Nd
 | 0=>unC l g
 | 1=>unB l g
 | _=>unA l g
theorem IJ {l:List cH} {x:List UInt8} {s cg:PS} (h:dI l x s=.ok false cg):cg=s:=by
 unfold dI at h
 cases c:lZ l x s with
 | true=>rw [c] at h; cases h
 | false=>rw [c] at h; cases h; rfl
set_option maxHeartbeats 1000000 in
theorem TO (G:List cH→ee) (hG:∀l,nn (G l)) (hT:(xM G).ok Tryz.prog) (l:List cH) (hl:uL l) (s:PS) (i1:Nat) (ok:cJ l s) (K0:Nd→PS→Prop) (E0:Int→Int→Prop) (hw:jG (oz l (G l) s) (fun x s'=>cJ l s'→K0 x s') E0):aQ Tryz.prog 119 [.ptr i1 1 0] (aa.emp.set i1 (b9 l s)) (lF cG l i1 K0 E0):=by
 refine aQ.du hT (dc:=yC) vz (by kernel_rfl) XG (by simp) ?_
 rw [dK]
 have hp:=fun (h:aa) (j:Nat) (B C:cR)=>push_id (id:=i1) h j B C
 rw [Rd] at hw
 simp (maxSteps:=1000000) only [UJ,hp,hp,aq,ay,aj,ak,aF,aW,aY,ah,af,ae,ag,az,aE,ao,aD,seval]
 intro i2 an al
 refine c6 (X:=Nat) (fun i=>[(0,.ptr i1 1 0),(2,.ptr i2 1 0),(12,.sl [[.str [45]],[.str [33]]]),(13,.int .i64 2),(14,.int .i64 i)]) (fun _=>(aa.emp.set i1 (b9 l s)).set i2 (.cells [.int .i64 0,.int .i64 0,.str [],.int .i64 0,.bg])) (fun i=>3 - i)
  (fun i=>i≤2∧jG (unI l (G l) i s) (fun x s'=>cJ l s'→K0 x s') E0) 0 ⟨by omega,hw⟩ (by simp only [ao,aD,seval]) (aa.aU _) ?_
 clear hw
 rintro i Q ⟨hi,hw⟩ hQ
 by_cases YM:i<2
 ·have g0:((i:Int)<2)=True:=eq_true (by omega)
  have wi:IntKind.i64.wrap ((i:Int)+1)=((i+1:Nat):Int):=de (by omega)
  obtain ⟨x,hx,hw⟩:∃x,([[45],[33]]:List (List UInt8))[i]? =some x∧jG ((dI l x s).bind fun b s=>bif b then SE l (G l) x s else unI l (G l) (i+1) s) (fun x s'=>cJ l s'→K0 x s') E0:=by
   rcases (by omega:i=0∨i=1) with rfl | rfl
   ·exact ⟨_,rfl,hw⟩
   ·exact ⟨_,rfl,hw⟩
  have qM:∀(K:D→aa→Prop) (h:aa),iI 1 K h [[.str [45]],[.str [33]]] (i:Int)=K (.c8 [.str x] 0) h:=fun K h=>by
   have:=lL (K:=K) (h:=h) (l:=([[45],[33]]:List (List UInt8))) (i:=(i:Int)) (f:=fun b:List UInt8=>[D.str b]) (sz:=1) fun _=>rfl
   refine Eq.trans this (propext ⟨fun hh=>hh.2 x (by simpa using hx),fun hh=>⟨⟨by omega,by simp; omega⟩,fun y hy=>?_⟩⟩)
   rw [Int.toNat_natCast,hx] at hy
   cases hy
   exact hh
  rw [aG] at hw
  simp (maxSteps:=1000000) only [g0,qM,hp,an,al,aq,ay,aj,ak,aF,aW,aY,ah,af,ae,ag,az,aE,ao,aD,seval]
  refine ⟨l,s,i1,x,rfl,hl.lo,(by simp [an,al]),ok,aA (fun b cg e1 k gm=>?_) (fun a e k s'=>?_) hw⟩
  case refine_2=>
   simp only [bB,ae,az]
   exact aC (s':=s') (by simp [an,al]) k
  cases b with
  | false=>
   have:=IJ e1
   subst this
   rw [cond_false] at k
   simp (maxSteps:=1000000) only [wi,hp,an,al,aq,ay,aj,ak,aF,aW,aY,ah,af,ae,ag,az,aE,ao,aD,seval]
   exact hQ (i+1) _ _ ⟨by omega,k⟩ (by simp only [ao,aD,seval]) (aa.aU _) (by omega)
  | true=>
   rw [cond_true] at k
   have w1:IntKind.i64.wrap (cg.deep+1)=cg.deep+1:=wrap_i64 (by have:=gm.d0; omega) (by have:=gm.d1; omega)
   unfold SE kW Uv at k
   rw [aG] at k
   simp (maxSteps:=1000000) only [En,b9,hp,an,al,aq,ay,aj,ak,aF,aW,aY,ah,af,ae,ag,az,aE,ao,aD,seval]
   intro i3 aw au av ar
   by_cases c:cg.deep+1>40
   ·have g:(cg.deep+1>40)=True:=eq_true c
    rw [if_pos c] at k
    simp (maxSteps:=1000000) only [g,w1,hp,an,al,aw,au,av,ar,aq,ay,aj,ak,aF,aW,aY,ah,af,ae,ag,az,aE,ao,aD,seval]
    refine ⟨l,{ cg with deep:=cg.deep+1 },i1,3,rfl,by simp [b9,an,al,aw,au,av,ar],gm.at_,?_⟩
    simp only [DQ,bB,true_and]
    refine ⟨rfl,?_⟩
    show eT yC [] (some (mZ _ 3)) _ _
    simp only [ae,az]
    exact aC (s':={ cg with deep:=cg.deep+1 }) (by simp [b9,an,al,aw,au,av,ar]) k
   ·have g:(cg.deep+1>40)=False:=eq_false c
    rw [if_neg c,cu] at k
    have RB:=vD gm c
    simp only [GO,aG,cu] at k
    simp (maxSteps:=1000000) only [g,w1,hp,an,al,aw,au,av,ar,aq,ay,aj,ak,aF,aW,aY,ah,af,ae,ag,az,aE,ao,aD,seval]
    generalize Df:({ cg with deep:=cg.deep+1 }:PS)=sd at*
    have Rv:sd.deep=cg.deep+1:=by rw [←Df]
    refine ⟨l,sd,i1,rfl,hl,by rw [←Df]; simp [b9,an,al,aw,au,av,ar],RB,aA (fun n ea e2 k j5=>?_) (fun a e k s'=>?_) k⟩
    case refine_2=>
     simp only [bB,ag,ae,List.nil_append,List.append_nil]
     refine ⟨rfl,i3,i1,l,s',rfl,by simp [an,al,aw,au,av,ar],by simp [an,al,aw,au,av,ar],?_⟩
     simp only [az]
     exact aC (s':={ s' with deep:=IntKind.i64.wrap (s'.deep - 1) }) (by simp [an,al,aw,au,av,ar]) k
    have d2:ea.deep=cg.deep+1:=((hG l).unary _ _ _ e2).trans Rv
    simp (maxSteps:=1000000) only [cG,hp,an,al,aw,au,av,ar,aq,ay,aj,ak,aF,aW,aY,ah,af,ae,ag,az,aE,ao,aD,seval]
    refine .inl ⟨l,ea,i1,.mk 25 0 x 0 [n],by simp only [aT,cz,bA],hl.lo,(by simp [an,al,aw,au,av,ar]),j5,aA (fun n2 eI e3 k nc=>?_) (fun a e k s'=>?_) k⟩
    case refine_2=>
     simp only [bB,ag,ae,List.nil_append,List.append_nil]
     refine ⟨rfl,i3,i1,l,s',rfl,by simp [an,al,aw,au,av,ar],by simp [an,al,aw,au,av,ar],?_⟩
     simp only [az]
     exact aC (s':={ s' with deep:=IntKind.i64.wrap (s'.deep - 1) }) (by simp [an,al,aw,au,av,ar]) k
    have d3:eI.deep=cg.deep+1:=(bY _ _ e3).trans d2
    have k:=k (ib gm nc d3).1
    have wd:=(ib gm nc d3).2
    simp (maxSteps:=1000000) only [cG,hp,an,al,aw,au,av,ar,aq,ay,aj,ak,aF,aW,aY,ah,af,ae,ag,az,aE,ao,aD,seval]
    refine ⟨rfl,i3,i1,l,eI,rfl,(by simp [an,al,aw,au,av,ar]),(by simp [an,al,aw,au,av,ar]),?_⟩
    rw [wd]
    simp (maxSteps:=1000000) only [cG,hp,an,al,aw,au,av,ar,aq,ay,aj,ak,aF,aW,aY,ah,af,ae,ag,az,aE,ao,aD,seval]
    exact cv (x:=n2) (s':={ eI with deep:=eI.deep - 1 }) rfl (by simp [an,al,aw,au,av,ar]) k
 ·have e0:i=2:=by omega
  subst e0
  clear hQ hi
  replace hw:jG (unD l (G l) s) (fun x s'=>cJ l s'→K0 x s') E0:=hw
  unfold unD at hw
  rw [aG] at hw
  simp (maxSteps:=1000000) only [hp,an,al,aq,ay,aj,ak,aF,aW,aY,ah,af,ae,ag,az,aE,ao,aD,seval]
  refine ⟨l,s,i1,rfl,hl,(by simp [an,al]),ok,aA (fun xb cg e1 k gm=>?_) (fun a e k s'=>?_) hw⟩
  case refine_2=>
   simp only [bB,ae,az]
   exact aC (s':=s') (by simp [an,al]) k
  obtain ⟨n,b⟩:=xb
  simp (maxSteps:=1000000) only [hp,an,al,aq,ay,aj,ak,aF,aW,aY,ah,af,ae,ag,az,aE,ao,aD,seval]
  intro i3 aw au av ar
  cases b with
  | true=>
   rw [cond_true,cu] at k
   simp (maxSteps:=1000000) only [hp,an,al,aw,au,av,ar,aq,ay,aj,ak,aF,aW,aY,ah,af,ae,ag,az,aE,ao,aD,seval]
   exact cv (x:=n) (s':=cg) rfl (by simp [an,al,aw,au,av,ar]) (k gm)
  | false=>
  rw [cond_false] at k
  clear hw
  simp (maxSteps:=1000000) only [hp,an,al,aw,au,av,ar,aq,ay,aj,ak,aF,aW,aY,ah,af,ae,ag,az,aE,ao,aD,seval]
  refine c6 (X:=Nat) (fun i=>[(0,.ptr i1 1 0),(2,.ptr i2 1 0),(38,.sl [[.int .i64 1],[.int .i64 2]]),(39,.int .i64 2),(40,.int .i64 i)]) (fun _=>(aa.emp.set i1 (b9 l cg)).set i2 (.cells [.int .i64 0,.int .i64 0,.str [],.int .i64 0,.bg])) (fun i=>3 - i)
   (fun i=>i≤2∧jG (unJ l (G l) i cg) (fun x s'=>cJ l s'→K0 x s') E0) 0 ⟨by omega,k⟩ (by simp only [ao,aD,seval]) (by exact aa.dV (by repeat' first | ax exact aa.bK | ax exact aa.bO | refine aa.cU (by simp [an,al,aw,au,av,ar]) ?_ | refine aa.cZ (by simp [an,al,aw,au,av,ar]) ?_)) ?_
  clear k e1
  rintro i Q ⟨hi,hw⟩ hQ
  by_cases YM:i<2
  ·have g0:((i:Int)<2)=True:=eq_true (by omega)
   have wi:IntKind.i64.wrap ((i:Int)+1)=((i+1:Nat):Int):=de (by omega)
   replace hw:jG ((dI l (fI ((i+1:Nat):Int)) cg).bind fun b s=>bif b then pH l (G l) ((i+1:Nat):Int) s else unJ l (G l) (i+1) s) (fun x s'=>cJ l s'→K0 x s') E0:=by
    rcases (by omega:i=0∨i=1) with rfl | rfl
    ·exact hw
    ·exact hw
   have qM:∀(K:D→aa→Prop) (h:aa),iI 1 K h [[.int .i64 1],[.int .i64 2]] (i:Int)=K (.c8 [.int .i64 ((i+1:Nat):Int)] 0) h:=fun K h=>by
    have:=lL (K:=K) (h:=h) (l:=([1,2]:List Int)) (i:=(i:Int)) (f:=fun b:Int=>[D.int .i64 b]) (sz:=1) fun _=>rfl
    have hx:([1,2]:List Int)[i]? =some ((i+1:Nat):Int):=by
     rcases (by omega:i=0∨i=1) with rfl | rfl<;>rfl
    refine Eq.trans this (propext ⟨fun hh=>hh.2 _ (by simpa using hx),fun hh=>⟨⟨by omega,by simp; omega⟩,fun y hy=>?_⟩⟩)
    rw [Int.toNat_natCast,hx] at hy
    cases hy
    exact hh
   have hq:yd [.int .i64 ((i+1:Nat):Int)]=some (.str (fI ((i+1:Nat):Int))):=rfl
   generalize hv:((i+1:Nat):Int)=v at*
   rw [aG] at hw
   simp (maxSteps:=1000000) only [g0,qM,hq,hp,an,al,aq,ay,aj,ak,aF,aW,aY,ah,af,ae,ag,az,aE,ao,aD,seval]
   refine ⟨l,cg,i1,fI v,rfl,hl.lo,(by simp [an,al]),gm,aA (fun b ea e2 k j5=>?_) (fun a e k s'=>?_) hw⟩
   case refine_2=>
    simp only [bB,ae,az]
    exact aC (s':=s') (by simp [an,al]) k
   cases b with
   | false=>
    have:=IJ e2
    subst this
    rw [cond_false] at k
    simp (maxSteps:=1000000) only [wi,hp,an,al,aq,ay,aj,ak,aF,aW,aY,ah,af,ae,ag,az,aE,ao,aD,seval]
    exact hQ (i+1) _ _ ⟨by omega,k⟩ (by simp only [hv,ao,aD,seval]) (aa.aU _) (by omega)
   | true=>
    rw [cond_true] at k
    unfold pH at k
    rw [aG] at k
    simp (maxSteps:=1000000) only [hp,an,al,aq,ay,aj,ak,aF,aW,aY,ah,af,ae,ag,az,aE,ao,aD,seval]
    refine ⟨l,ea,i1,[40],rfl,hl.lo,(by simp [an,al]),j5,aA (fun _ eI e3 k nc=>?_) (fun a e k s'=>?_) k⟩
    case refine_2=>
     simp only [bB,ae,az]
     exact aC (s':=s') (by simp [an,al]) k
    rw [aG] at k
    simp (maxSteps:=1000000) only [hp,an,al,aq,ay,aj,ak,aF,aW,aY,ah,af,ae,ag,az,aE,ao,aD,seval]
    refine ⟨l,eI,i1,0,rfl,hl,(by simp [an,al]),nc,aA (fun n mW e4 k uH=>?_) (fun a e k s'=>?_) k⟩
    case refine_2=>
     simp only [bB,ae,az]
     exact aC (s':=s') (by simp [an,al]) k
    rw [aG] at k
    simp (maxSteps:=1000000) only [cG,hp,an,al,aq,ay,aj,ak,aF,aW,aY,ah,af,ae,ag,az,aE,ao,aD,seval]
    refine .inl ⟨l,mW,i1,.mk 27 v [] 0 [n],by simp only [aT,cz,bA],hl.lo,(by simp [an,al]),uH,aA (fun n2 xL e5 k DK=>?_) (fun a e k s'=>?_) k⟩
    case refine_2=>
     simp only [bB,ae,az]
     exact aC (s':=s') (by simp [an,al]) k
    rw [aG] at k
    simp (maxSteps:=1000000) only [cG,hp,an,al,aq,ay,aj,ak,aF,aW,aY,ah,af,ae,ag,az,aE,ao,aD,seval]
    intro i3 aw au av ar
    refine ⟨l,xL,i1,[41],rfl,hl.lo,(by simp [an,al,aw,au,av,ar]),DK,aA (fun _ wU e6 k L3=>?_) (fun a e k s'=>?_) k⟩
    case refine_2=>
     simp only [bB,ae,az]
     exact aC (s':=s') (by simp [an,al,aw,au,av,ar]) k
    rw [cu] at k
    simp (maxSteps:=1000000) only [hp,an,al,aw,au,av,ar,aq,ay,aj,ak,aF,aW,aY,ah,af,ae,ag,az,aE,ao,aD,seval]
    exact cv (x:=n2) (s':=wU) rfl (by simp [an,al,aw,au,av,ar]) (k L3)
  ·have e0:i=2:=by omega
   subst e0
   clear hQ hi
   replace hw:jG (unA l (G l) cg) (fun x s'=>cJ l s'→K0 x s') E0:=hw
   unfold unA at hw
   rw [aG] at hw
   simp (maxSteps:=1000000) only [hp,an,al,aq,ay,aj,ak,aF,aW,aY,ah,af,ae,ag,az,aE,ao,aD,seval]
   refine ⟨l,cg,i1,[40],rfl,hl.lo,(by simp [an,al]),gm,aA (fun b ea e2 k j5=>?_) (fun a e k s'=>?_) hw⟩
   case refine_2=>
    simp only [bB,ae,az]
    exact aC (s':=s') (by simp [an,al]) k
   cases b with
   | true=>
    rw [cond_true,aG] at k
    simp (maxSteps:=1000000) only [hp,an,al,aq,ay,aj,ak,aF,aW,aY,ah,af,ae,ag,az,aE,ao,aD,seval]
    refine ⟨l,ea,i1,0,rfl,hl,(by simp [an,al]),j5,aA (fun n eI e3 k nc=>?_) (fun a e k s'=>?_) k⟩
    case refine_2=>
     simp only [bB,ae,az]
     exact aC (s':=s') (by simp [an,al]) k
    rw [aG] at k
    simp (maxSteps:=1000000) only [cG,hp,an,al,aq,ay,aj,ak,aF,aW,aY,ah,af,ae,ag,az,aE,ao,aD,seval]
    intro i3 aw au av ar
    refine ⟨l,eI,i1,[41],rfl,hl.lo,(by simp [an,al,aw,au,av,ar]),nc,aA (fun _ mW e4 k uH=>?_) (fun a e k s'=>?_) k⟩
    case refine_2=>
     simp only [bB,ae,az]
     exact aC (s':=s') (by simp [an,al,aw,au,av,ar]) k
    rw [cu] at k
    simp (maxSteps:=1000000) only [hp,an,al,aw,au,av,ar,aq,ay,aj,ak,aF,aW,aY,ah,af,ae,ag,az,aE,ao,aD,seval]
    exact cv (x:=n) (s':=mW) rfl (by simp [an,al,aw,au,av,ar]) (k uH)
   | false=>
    rw [cond_false,aG] at k
    simp (maxSteps:=1000000) only [hp,an,al,aq,ay,aj,ak,aF,aW,aY,ah,af,ae,ag,az,aE,ao,aD,seval]
    refine ⟨l,ea,i1,rfl,hl.lo,(by simp [an,al]),j5,aA (fun x eI e3 k nc=>?_) (fun a e k s'=>?_) k⟩
    case refine_2=>
     simp only [bB,ae,az]
     exact aC (s':=s') (by simp [an,al]) k
    simp (maxSteps:=1000000) only [hp,an,al,aq,ay,aj,ak,aF,aW,aY,ah,af,ae,ag,az,aE,ao,aD,seval]
    refine ⟨l,eI,i1,[40],rfl,(by simp [an,al]),nc.at_,?_⟩
    cases uP:lZ l [40] eI with
    | true=>
     rw [uP,cond_true] at k
     simp (maxSteps:=1000000) only [hp,an,al,aq,ay,aj,ak,aF,aW,aY,ah,af,ae,ag,az,aE,ao,aD,seval]
     refine ⟨l,eI,i1,x,rfl,hl,(by simp [an,al]),nc,aA (fun n mW e4 k uH=>?_) (fun a e k s'=>?_) k⟩
     case refine_2=>
      simp only [bB,ae,az]
      exact aC (s':=s') (by simp [an,al]) k
     simp (maxSteps:=1000000) only [cG,hp,an,al,aq,ay,aj,ak,aF,aW,aY,ah,af,ae,ag,az,aE,ao,aD,seval]
     exact cv (x:=n) (s':=mW) rfl (by simp [an,al]) (k uH)
    | false=>
     rw [uP,cond_false] at k
     simp (maxSteps:=1000000) only [hp,an,al,aq,ay,aj,ak,aF,aW,aY,ah,af,ae,ag,az,aE,ao,aD,seval]
     refine .inl ⟨l,eI,i1,.mk 23 0 x 0 [],by simp only [aT,bA],hl.lo,(by simp [an,al]),nc,aA (fun n mW e4 k uH=>?_) (fun a e k s'=>?_) k⟩
     case refine_2=>
      simp only [bB,ae,az]
      exact aC (s':=s') (by simp [an,al]) k
     simp (maxSteps:=1000000) only [cG,hp,an,al,aq,ay,aj,ak,aF,aW,aY,ah,af,ae,ag,az,aE,ao,aD,seval]
     exact cv (x:=n) (s':=mW) rfl (by simp [an,al]) (k uH)
end
end Go.Proofs.YtpklkpkfgmoghaaGreatDoor.Zz
namespace Go.Proofs.YtpklkpkfgmoghaaGreatDoor.Zz
noncomputable section
def ae7:cj:=⟨⟨[],[(1,1),(2,1),(3,1),(4,2),(5,1),(5,3),(7,1),(8,1),(9,1),(10,1),(11,1),(12,1),(13,2),(14,1),(15,1),(16,2),(17,1),(18,2),(19,2),(20,2),(21,1)],[],[],[],[]⟩,[],[],false⟩
def abb:dL:=
 sO [oA 2]
 (.seq (.block 0 (sO [oM 0 7,
 oC 57 [.t 7,(kS [105,102])] 8,
 oM 8 6]
 (.cond (.t 6)
 (sO [oM 0 9,
 oC 101 [.t 9] 10,
 oS 5 2 10]
 (.ret))
 (sO [oM 0 12,
 oC 57 [.t 12,(kS [102,111,114])] 13,
 oM 13 11]
 (.cond (.t 11)
 (sO [oM 0 14,
 oP (.build zN [(0,1,(kI 10))]) 15,
 oC 35 [.t 14,.t 15] 16,
 oA 3,
 oS 5 3 16]
 (sO [oM 0 17,
 oC 102 [.t 17,kI 0] 18,
 oM 0 19,
 oC 62 [.t 19] 20,
 oP (.buildSlice 5 zN 2 [(0,(.t 18)),(1,(.t 20))] false) 21,
 oF 4 3 22,
 oS 1 22 21]
 (sO [oJ 5 3 23,
 oS 5 2 23]
 (.ret))))
 (sO [oM 0 25,
 oC 57 [.t 25,(kS [114,101,116,117,114,110])] 26,
 oM 26 24]
 (.cond (.t 24)
 (sO [oM 0 27,
 oC 103 [.t 27,kI 11,kS []] 28,
 oS 5 2 28]
 (.ret))
 (sO [oM 0 30,
 oC 57 [.t 30,(kS [97,115,115,101,114,116])] 31,
 oM 31 29]
 (.cond (.t 29)
 (sO [oM 0 32,
 oC 103 [.t 32,kI 12,kS []] 33,
 oS 5 2 33]
 (.ret))
 (sO [oM 0 35,
 oC 57 [.t 35,(kS [115,107,105,112])] 36,
 oM 36 34]
 (.cond (.t 34)
 (sO [oM 0 37,
 oC 60 [.t 37,kS [59]] 38]
 (sO [oM 0 39,
 oP (.build zN [(0,1,(kI 14))]) 40,
 oC 35 [.t 39,.t 40] 41,
 oS 5 2 41]
 (.ret)))
 (.skip))))))))))))
 (sO [oM 0 42,
 oC 58 [.t 42] 43,
 oM 43 4]
 (.seq (.block 1 (sO [oM 0 45,
 oC 57 [.t 45,(kS [58,61])] 46,
 oM 46 44]
 (.cond (.t 44)
 (sO [oM 0 47,
 oM 4 48,
 oC 103 [.t 47,kI 7,.t 48] 49,
 oS 5 2 49]
 (.ret))
 (sO [oM 0 51,
 oC 57 [.t 51,kS [61]] 52,
 oM 52 50]
 (.cond (.t 50)
 (sO [oM 0 53,
 oM 4 54,
 oC 103 [.t 53,kI 8,.t 54] 55,
 oS 5 2 55]
 (.ret))
 (.skip))))))
 (sO [oM 0 56,
 oP (.build zN [(0,1,(kI 13))]) 57,
 oC 35 [.t 56,.t 57] 58,
 oA 5,
 oS 5 5 58]
 (sO [oM 0 59,
 oM 4 60,
 oC 104 [.t 59,.t 60] 61,
 oP (.buildSlice 5 zN 1 [(0,(.t 61))] false) 62,
 oF 4 5 63,
 oS 1 63 62]
 (sO [oM 0 64,
 oC 60 [.t 64,kS [59]] 65]
 (sO [oJ 5 5 66,
 oS 5 2 66]
 (.ret))))))))
theorem abL:bJ Tryz.prog 85 ae7=some (abb,[.cell 2 (some 5)],67):=by kernel_rfl
def qF (G:List cH→ee) (args:List D) (h:aa) (K E:D→aa→Prop):Prop:=∃(l:List cH) (s:PS) (id:Nat) (k:Int) (x:List UInt8),args=[.ptr id 1 0,.int .i64 k,.str x]∧uL l∧cP (im l (G l) k x) cG l s id h K E
theorem A7 (G:List cH→ee) (args:List D) (h:aa) (K E K' E':D→aa→Prop) (hk:∀d h,K d h→K' d h) (he:∀d h,E d h→E' d h) (c:qF G args h K E):qF G args h K' E':=by
 obtain ⟨l,s,id,k,x,a,b,c⟩:=c
 exact ⟨l,s,id,k,x,a,b,eO hk he c⟩
theorem Gc (G:List cH→ee) (hT:(xM G).ok Tryz.prog) (args:List D) (h:aa) (K E:D→aa→Prop) (c:qF G args h K E):aQ Tryz.prog 103 args h (dF.to K E):=by
 obtain ⟨l,s,id,k,x,rfl,hl,c⟩:=c
 exact jq (fun ok K0 E0 hw=>Pv G hT l hl s id k x ok K0 E0 hw) c
def tbS (G:List cH→ee):bm:=(xM G).kc 103 (qF G) (A7 G)
theorem U9 {G:List cH→ee}:(tbS G).q=(xM G).q:=rfl
theorem U7 {G:List cH→ee}:(tbS G).a=(xM G).a:=rfl
theorem U8 {G:List cH→ee} (g:FuncId) (args:List D) (h:aa) (K E:D→aa→Prop):(tbS G).c g args h K E=if g=103 then qF G args h K E else (xM G).c g args h K E:=rfl
theorem eZ:a7% (And.intro @U9 (And.intro @U7 @U8)):=And.intro @U9 (And.intro @U7 @U8)
theorem XS (G:List cH→ee) (hT:(xM G).ok Tryz.prog):(tbS G).ok Tryz.prog:=bm.cL hT (Gc G hT)
set_option maxHeartbeats 1000000 in
theorem XN (G:List cH→ee) (hG:∀l,nn (G l)) (hT:(xM G).ok Tryz.prog) (l:List cH) (hl:uL l) (s:PS) (i1:Nat) (ok:cJ l s) (K0:Nd→PS→Prop) (E0:Int→Int→Prop) (hw:jG (tS l (G l) s) (fun x s'=>cJ l s'→K0 x s') E0):aQ Tryz.prog 85 [.ptr i1 1 0] (aa.emp.set i1 (b9 l s)) (lF cG l i1 K0 E0):=by
 refine aQ.du (XS G hT) (dc:=cS.none) (fun _ _=>cS.eV) (by kernel_rfl) abL (by simp) ?_
 rw [dK]
 have hp:=fun (h:aa) (j:Nat) (B C:cR)=>push_id (id:=i1) h j B C
 unfold tS at hw
 rw [aG] at hw
 simp (maxSteps:=1000000) only [abb,eZ,hp,hp,aq,ay,aj,ak,aF,aW,aY,ah,af,ae,ag,az,aE,ao,aD,seval]
 intro i2 an al
 refine ⟨l,s,i1,FQ,rfl,hl.lo,(by simp [an,al]),ok,aA (fun b cg e1 k gm=>?_) (fun a e k s'=>?_) hw⟩
 case refine_2=>
  simp only [bB,ae,az]
  exact aC (s':=s') (by simp [an,al]) k
 cases b with
 | true=>
  rw [cond_true] at k
  simp (maxSteps:=1000000) only [eZ,hp,an,al,aq,ay,aj,ak,aF,aW,aY,ah,af,ae,ag,az,aE,ao,aD,seval]
  refine ⟨l,cg,i1,rfl,hl,(by simp [an,al]),gm,aA (fun n t1 f1 k L4=>?_) (fun a e k s'=>?_) k⟩
  case refine_2=>
   simp only [bB,ae,az]
   exact aC (s':=s') (by simp [an,al]) k
  simp (maxSteps:=1000000) only [cG,eZ,hp,an,al,aq,ay,aj,ak,aF,aW,aY,ah,af,ae,ag,az,aE,ao,aD,seval]
  exact cv (x:=n) (s':=t1) rfl (by simp [an,al]) (k L4)
 | false=>
 rw [cond_false,aG] at k
 simp (maxSteps:=1000000) only [eZ,hp,an,al,aq,ay,aj,ak,aF,aW,aY,ah,af,ae,ag,az,aE,ao,aD,seval]
 refine ⟨l,cg,i1,FE,rfl,hl.lo,(by simp [an,al]),gm,aA (fun b ea e2 k j5=>?_) (fun a e k s'=>?_) k⟩
 case refine_2=>
  simp only [bB,ae,az]
  exact aC (s':=s') (by simp [an,al]) k
 cases b with
 | true=>
  rw [cond_true,aG] at k
  simp (maxSteps:=1000000) only [eZ,hp,an,al,aq,ay,aj,ak,aF,aW,aY,ah,af,ae,ag,az,aE,ao,aD,seval]
  refine .inl ⟨l,ea,i1,.mk 10 0 [] 0 [],by simp only [aT,bA],hl.lo,(by simp [an,al]),j5,aA (fun n eI e3 k nc=>?_) (fun a e k s'=>?_) k⟩
  case refine_2=>
   simp only [bB,ae,az]
   exact aC (s':=s') (by simp [an,al]) k
  obtain ⟨nk,nt,ns,nm,nl⟩:=n
  rw [aG] at k
  simp (maxSteps:=1000000) only [cG,aT,eZ,hp,an,al,aq,ay,aj,ak,aF,aW,aY,ah,af,ae,ag,az,aE,ao,aD,seval]
  intro i3 aw au av ar
  refine ⟨l,eI,i1,0,rfl,hl,(by simp [an,al,aw,au,av,ar]),nc,aA (fun x mW e4 k uH=>?_) (fun a e k s'=>?_) k⟩
  case refine_2=>
   simp only [bB,ae,az]
   exact aC (s':=s') (by simp [an,al,aw,au,av,ar]) k
  rw [aG] at k
  simp (maxSteps:=1000000) only [cG,eZ,hp,an,al,aw,au,av,ar,aq,ay,aj,ak,aF,aW,aY,ah,af,ae,ag,az,aE,ao,aD,seval]
  refine ⟨l,mW,i1,rfl,hl,(by simp [an,al,aw,au,av,ar]),uH,aA (fun y xL e5 k DK=>?_) (fun a e k s'=>?_) k⟩
  case refine_2=>
   simp only [bB,ae,az]
   exact aC (s':=s') (by simp [an,al,aw,au,av,ar]) k
  rw [cu] at k
  simp (maxSteps:=1000000) only [cG,eZ,hp,an,al,aw,au,av,ar,aq,ay,aj,ak,aF,aW,aY,ah,af,ae,ag,az,aE,ao,aD,seval]
  exact cv (x:=.mk nk nt ns nm [x,y]) (s':=xL) (by rw [cG,aT,cz,cz,bA]) (by simp [an,al,aw,au,av,ar]) (k DK)
 | false=>
 rw [cond_false,aG] at k
 simp (maxSteps:=1000000) only [eZ,hp,an,al,aq,ay,aj,ak,aF,aW,aY,ah,af,ae,ag,az,aE,ao,aD,seval]
 refine ⟨l,ea,i1,lu,rfl,hl.lo,(by simp [an,al]),j5,aA (fun b eI e3 k nc=>?_) (fun a e k s'=>?_) k⟩
 case refine_2=>
  simp only [bB,ae,az]
  exact aC (s':=s') (by simp [an,al]) k
 cases b with
 | true=>
  rw [cond_true] at k
  simp (maxSteps:=1000000) only [eZ,hp,an,al,aq,ay,aj,ak,aF,aW,aY,ah,af,ae,ag,az,aE,ao,aD,seval]
  refine ⟨l,eI,i1,11,[],rfl,hl,(by simp [an,al]),nc,aA (fun n t1 f1 k L4=>?_) (fun a e k s'=>?_) k⟩
  case refine_2=>
   simp only [bB,ae,az]
   exact aC (s':=s') (by simp [an,al]) k
  simp (maxSteps:=1000000) only [cG,eZ,hp,an,al,aq,ay,aj,ak,aF,aW,aY,ah,af,ae,ag,az,aE,ao,aD,seval]
  exact cv (x:=n) (s':=t1) rfl (by simp [an,al]) (k L4)
 | false=>
 rw [cond_false,aG] at k
 simp (maxSteps:=1000000) only [eZ,hp,an,al,aq,ay,aj,ak,aF,aW,aY,ah,af,ae,ag,az,aE,ao,aD,seval]
 refine ⟨l,eI,i1,lr,rfl,hl.lo,(by simp [an,al]),nc,aA (fun b mW e4 k uH=>?_) (fun a e k s'=>?_) k⟩
 case refine_2=>
  simp only [bB,ae,az]
  exact aC (s':=s') (by simp [an,al]) k
 cases b with
 | true=>
  rw [cond_true] at k
  simp (maxSteps:=1000000) only [eZ,hp,an,al,aq,ay,aj,ak,aF,aW,aY,ah,af,ae,ag,az,aE,ao,aD,seval]
  refine ⟨l,mW,i1,12,[],rfl,hl,(by simp [an,al]),uH,aA (fun n t1 f1 k L4=>?_) (fun a e k s'=>?_) k⟩
  case refine_2=>
   simp only [bB,ae,az]
   exact aC (s':=s') (by simp [an,al]) k
  simp (maxSteps:=1000000) only [cG,eZ,hp,an,al,aq,ay,aj,ak,aF,aW,aY,ah,af,ae,ag,az,aE,ao,aD,seval]
  exact cv (x:=n) (s':=t1) rfl (by simp [an,al]) (k L4)
 | false=>
 rw [cond_false,aG] at k
 simp (maxSteps:=1000000) only [eZ,hp,an,al,aq,ay,aj,ak,aF,aW,aY,ah,af,ae,ag,az,aE,ao,aD,seval]
 refine ⟨l,mW,i1,AB,rfl,hl.lo,(by simp [an,al]),uH,aA (fun b xL e5 k DK=>?_) (fun a e k s'=>?_) k⟩
 case refine_2=>
  simp only [bB,ae,az]
  exact aC (s':=s') (by simp [an,al]) k
 cases b with
 | true=>
  rw [cond_true,aG] at k
  simp (maxSteps:=1000000) only [eZ,hp,an,al,aq,ay,aj,ak,aF,aW,aY,ah,af,ae,ag,az,aE,ao,aD,seval]
  refine ⟨l,xL,i1,[59],rfl,hl.lo,(by simp [an,al]),DK,aA (fun _ wU e6 k L3=>?_) (fun a e k s'=>?_) k⟩
  case refine_2=>
   simp only [bB,ae,az]
   exact aC (s':=s') (by simp [an,al]) k
  simp (maxSteps:=1000000) only [eZ,hp,an,al,aq,ay,aj,ak,aF,aW,aY,ah,af,ae,ag,az,aE,ao,aD,seval]
  refine .inl ⟨l,wU,i1,.mk 14 0 [] 0 [],by simp only [aT,bA],hl.lo,(by simp [an,al]),L3,aA (fun n t1 f1 k L4=>?_) (fun a e k s'=>?_) k⟩
  case refine_2=>
   simp only [bB,ae,az]
   exact aC (s':=s') (by simp [an,al]) k
  simp (maxSteps:=1000000) only [cG,eZ,hp,an,al,aq,ay,aj,ak,aF,aW,aY,ah,af,ae,ag,az,aE,ao,aD,seval]
  exact cv (x:=n) (s':=t1) rfl (by simp [an,al]) (k L4)
 | false=>
 rw [cond_false,aG] at k
 simp (maxSteps:=1000000) only [eZ,hp,an,al,aq,ay,aj,ak,aF,aW,aY,ah,af,ae,ag,az,aE,ao,aD,seval]
 refine ⟨l,xL,i1,rfl,hl.lo,(by simp [an,al]),DK,aA (fun x wU e6 k L3=>?_) (fun a e k s'=>?_) k⟩
 case refine_2=>
  simp only [bB,ae,az]
  exact aC (s':=s') (by simp [an,al]) k
 rw [aG] at k
 simp (maxSteps:=1000000) only [eZ,hp,an,al,aq,ay,aj,ak,aF,aW,aY,ah,af,ae,ag,az,aE,ao,aD,seval]
 refine ⟨l,wU,i1,[58,61],rfl,hl.lo,(by simp [an,al]),L3,aA (fun b B7 e7 k Yv=>?_) (fun a e k s'=>?_) k⟩
 case refine_2=>
  simp only [bB,ae,az]
  exact aC (s':=s') (by simp [an,al]) k
 cases b with
 | true=>
  rw [cond_true] at k
  simp (maxSteps:=1000000) only [eZ,hp,an,al,aq,ay,aj,ak,aF,aW,aY,ah,af,ae,ag,az,aE,ao,aD,seval]
  refine ⟨l,B7,i1,7,x,rfl,hl,(by simp [an,al]),Yv,aA (fun n t1 f1 k L4=>?_) (fun a e k s'=>?_) k⟩
  case refine_2=>
   simp only [bB,ae,az]
   exact aC (s':=s') (by simp [an,al]) k
  simp (maxSteps:=1000000) only [cG,eZ,hp,an,al,aq,ay,aj,ak,aF,aW,aY,ah,af,ae,ag,az,aE,ao,aD,seval]
  exact cv (x:=n) (s':=t1) rfl (by simp [an,al]) (k L4)
 | false=>
 rw [cond_false,aG] at k
 simp (maxSteps:=1000000) only [eZ,hp,an,al,aq,ay,aj,ak,aF,aW,aY,ah,af,ae,ag,az,aE,ao,aD,seval]
 refine ⟨l,B7,i1,[61],rfl,hl.lo,(by simp [an,al]),Yv,aA (fun b s8p e8 k ok8=>?_) (fun a e k s'=>?_) k⟩
 case refine_2=>
  simp only [bB,ae,az]
  exact aC (s':=s') (by simp [an,al]) k
 cases b with
 | true=>
  rw [cond_true] at k
  simp (maxSteps:=1000000) only [eZ,hp,an,al,aq,ay,aj,ak,aF,aW,aY,ah,af,ae,ag,az,aE,ao,aD,seval]
  refine ⟨l,s8p,i1,8,x,rfl,hl,(by simp [an,al]),ok8,aA (fun n t1 f1 k L4=>?_) (fun a e k s'=>?_) k⟩
  case refine_2=>
   simp only [bB,ae,az]
   exact aC (s':=s') (by simp [an,al]) k
  simp (maxSteps:=1000000) only [cG,eZ,hp,an,al,aq,ay,aj,ak,aF,aW,aY,ah,af,ae,ag,az,aE,ao,aD,seval]
  exact cv (x:=n) (s':=t1) rfl (by simp [an,al]) (k L4)
 | false=>
 rw [cond_false,aG] at k
 simp (maxSteps:=1000000) only [eZ,hp,an,al,aq,ay,aj,ak,aF,aW,aY,ah,af,ae,ag,az,aE,ao,aD,seval]
 refine .inl ⟨l,s8p,i1,.mk 13 0 [] 0 [],by simp only [aT,bA],hl.lo,(by simp [an,al]),ok8,aA (fun n s9p e9 k ok9=>?_) (fun a e k s'=>?_) k⟩
 case refine_2=>
  simp only [bB,ae,az]
  exact aC (s':=s') (by simp [an,al]) k
 obtain ⟨nk,nt,ns,nm,nl⟩:=n
 rw [aG] at k
 simp (maxSteps:=1000000) only [cG,aT,eZ,hp,an,al,aq,ay,aj,ak,aF,aW,aY,ah,af,ae,ag,az,aE,ao,aD,seval]
 intro i3 aw au av ar
 refine ⟨l,s9p,i1,x,rfl,hl,(by simp [an,al,aw,au,av,ar]),ok9,aA (fun y t1 f1 k L4=>?_) (fun a e k s'=>?_) k⟩
 case refine_2=>
  simp only [bB,ae,az]
  exact aC (s':=s') (by simp [an,al,aw,au,av,ar]) k
 rw [aG] at k
 simp (maxSteps:=1000000) only [cG,eZ,hp,an,al,aw,au,av,ar,aq,ay,aj,ak,aF,aW,aY,ah,af,ae,ag,az,aE,ao,aD,seval]
 refine ⟨l,t1,i1,[59],rfl,hl.lo,(by simp [an,al,aw,au,av,ar]),L4,aA (fun _ t2 f2 k oku=>?_) (fun a e k s'=>?_) k⟩
 case refine_2=>
  simp only [bB,ae,az]
  exact aC (s':=s') (by simp [an,al,aw,au,av,ar]) k
 rw [cu] at k
 simp (maxSteps:=1000000) only [cG,eZ,hp,an,al,aw,au,av,ar,aq,ay,aj,ak,aF,aW,aY,ah,af,ae,ag,az,aE,ao,aD,seval]
 exact cv (x:=.mk nk nt ns nm [y]) (s':=t2) (by rw [cG,aT,cz,bA]) (by simp [an,al,aw,au,av,ar]) (k oku)
end
end Go.Proofs.YtpklkpkfgmoghaaGreatDoor.Zz
