/- Contracts: calls. -/
import Derived.Test.YtpklkpkfgmoghaaGreatDoorZP7
set_option linter.unnecessarySimpa false
set_option linter.unusedVariables false
set_option linter.unusedSimpArgs false
set_option maxRecDepth 20000
namespace Go.Proofs.YtpklkpkfgmoghaaGreatDoor.Zz
noncomputable section
def YS:b7:=⟨⟨[(2,3)],[(1,1),(2,3),(3,1),(4,1),(6,1),(8,1),(9,3)],[],[((9,3),[(.t 5)])],[((9,1),(.t 5))],[]⟩,[(9,[0,1,2,3,4,5,6,7])],[],false⟩
def TL:dA:=
 sO [oA 4]
 (.seq (sO [oM 0 6,
 oC 84 [.t 6] 7]
 (.defer (.t 7) []))
 (sO [oM 0 8,
 oM 1 9,
 oP (.build zN [(0,1,(kI 24)),(2,1,(.t 9))]) 10,
 oQ (.callR (.f 35) [(.t 8),(.t 10)]) 11,
 oA 5,
 oS 5 5 11]
 (sO [oM 0 12,
 oC 60 [.t 12,kS [40]] 13]
 (.seq (.block 0 (.loop (.seq (sO [oM 0 14,
 oC 57 [.t 14,kS [41]] 15,
 oP (.un .not (.t 15)) 16]
 (.cond (.t 16)
 (.skip)
 (.exit 0)))
 (.block 1 (.seq (sO [oF 4 5 17,
 oL 17 18,
 oZ 18 19,
 oH .gtr 19 0 20]
 (.cond (.t 20)
 (.ops [oM 0 21,
 oC 60 [.t 21,kS [44]] 22])
 (.skip)))
 (.seq (sO [oF 4 5 23,
 oL 23 24,
 oZ 24 25,
 oH .geq 25 6 26]
 (.cond (.t 26)
 (.ops [oM 0 27,
 oC 38 [.t 27,kI 3] 28])
 (.skip)))
 (.fq 29 [oF 4 5 29,
 oQ (.cK none (.t 29) (.t 5)) 30,
 oM 0 31,
 oQ (.callNe (.f 102) [(.t 31),(kI 0)] [(.t 5)]) 32,
 oP (.buildSlice 5 zN 1 [(0,(.t 32))] false) 33,
 oQ (.append 5 64 false (.t 30) (.t 33)) 34,
 oF 4 5 35,
 oS 1 35 34])))))))
 (sO [oJ 5 5 36,
 oS 5 4 36]
 (.ret))))))
theorem WB:bE Tryz.prog 104 YS=some (TL,[.cell 4 (some 5)],37):=by kernel_rfl
set_option maxHeartbeats 1000000 in
theorem US (G:List Tok→dU) (hG:∀l,mW (G l)) (hT:(xx G).ok Tryz.prog) (l:List Tok) (hl:uw l) (s:PS) (i1:Nat) (x:List UInt8) (ok:cB l s) (K0:Nd→PS→Prop) (E0:Int→Int→Prop) (hw:jA (ya l (G l) x s) (fun x s'=>cB l s'→K0 x s') E0):aO Tryz.prog 104 [.ptr i1 1 0,.str x] (aa.emp.set i1 (bV l s)) (ly cz l i1 K0 E0):=by
 refine aO.c8 hT (dc:=yc) vf (by kernel_rfl) WB (by simp) ?_
 rw [dz]
 have hp:=fun (h:aa) (j:Nat) (B C:cI)=>push_id (id:=i1) h j B C
 have w1:IntKind.i64.wrap (s.deep+1)=s.deep+1:=wrap_i64 (by have:=ok.d0; omega) (by have:=ok.d1; omega)
 unfold ya kP TA at hw
 rw [aE] at hw
 simp (maxSteps:=1000000) only [TL,D0,bV,aC,an,aB,seval]
 intro i2 al ak i3 av ar au aq
 by_cases c:s.deep+1>40
 ·have g:(s.deep+1>40)=True:=eq_true c
  rw [if_pos c] at hw
  simp (maxSteps:=1000000) only [g,w1,hp,al,ak,av,ar,au,aq,ao,aw,ah,aj,aD,aU,aW,ag,ae,ab,af,ax,aC,an,aB,seval]
  refine ⟨l,{ s with deep:=s.deep+1 },i1,3,rfl,by simp [bV,al,ak,av,ar,au,aq],ok.at_,?_⟩
  simp only [Dt,bu,true_and]
  refine ⟨rfl,?_⟩
  show eJ yc [] (some (mN _ 3)) _ _
  simp only [ab,ax]
  exact aA (s':={ s with deep:=s.deep+1 }) (by simp [bV,al,ak,av,ar,au,aq]) hw
 ·have g:(s.deep+1>40)=False:=eq_false c
  rw [if_neg c,b_] at hw
  have QO:=vj ok c
  simp only [Gm,aE,b_] at hw
  simp (maxSteps:=1000000) only [g,w1,uG,vk,hp,al,ak,av,ar,au,aq,ao,aw,ah,aj,aD,aU,aW,ag,ae,ab,af,ax,aC,an,aB,seval]
  generalize CT:({ s with deep:=s.deep+1 }:PS)=sd at*
  have QH:sd.deep=s.deep+1:=by rw [←CT]
  refine .inr ⟨l,sd,i1,.mk 24 0 x 0 [],rfl,hl.lo,by rw [←CT]; simp [bV,al,ak,av,ar,au,aq],QO,ay (fun n bZ e1 k gg=>?_) (fun a e k s'=>?_) hw⟩
  case refine_2=>
   simp only [bu,af,ab,List.nil_append,List.append_nil]
   refine ⟨rfl,i3,i1,l,s',rfl,by simp [al,ak,av,ar,au,aq],by simp [al,ak,av,ar,au,aq],?_⟩
   simp only [ax]
   exact aA (s':={ s' with deep:=IntKind.i64.wrap (s'.deep - 1) }) (by simp [al,ak,av,ar,au,aq]) k
  have d1:bZ.deep=s.deep+1:=(bT _ _ e1).trans QH
  have hn:=qM e1
  subst hn
  simp (maxSteps:=1000000) only [vk,hp,al,ak,av,ar,au,aq,ao,aw,ah,aj,aD,aU,aW,ag,ae,ab,af,ax,aC,an,aB,seval]
  intro i4 aH aK aG aJ aF aI
  refine ⟨l,bZ,i1,[40],rfl,hl.lo,(by simp [al,ak,av,ar,au,aq,aH,aK,aG,aJ,aF,aI]),gg,ay (fun _ dT e2 k jV=>?_) (fun a e k s'=>?_) k⟩
  case refine_2=>
   simp only [bu,af,ab,List.nil_append,List.append_nil]
   refine ⟨rfl,i3,i1,l,s',rfl,by simp [al,ak,av,ar,au,aq,aH,aK,aG,aJ,aF,aI],by simp [al,ak,av,ar,au,aq,aH,aK,aG,aJ,aF,aI],?_⟩
   simp only [ax]
   exact aA (s':={ s' with deep:=IntKind.i64.wrap (s'.deep - 1) }) (by simp [al,ak,av,ar,au,aq,aH,aK,aG,aJ,aF,aI]) k
  have d2:dT.deep=s.deep+1:=(cO _ _ e2).trans d1
  simp (maxSteps:=1000000) only [hp,al,ak,av,ar,au,aq,aH,aK,aG,aJ,aF,aI,ao,aw,ah,aj,aD,aU,aW,ag,ae,ab,af,ax,aC,an,aB,seval]
  refine sA (X:=Nat×Nd×Nat×PS) [⟨.func 100,[.ptr i3 1 0],[]⟩] (fun z=>[(0,.ptr i1 1 0),(4,.ptr i2 1 0),(5,.ptr i4 1 0)])
   (fun z=>gx ((((aa.emp.set i1 (bV l z.2.2.2)).set i2 (.cells [.int .i64 0,.int .i64 0,.str [],.int .i64 0,.a_])).set i3 (.cells [.ptr i1 1 0])).set i4 (.cells (ky z.2.1 z.2.2.1))) z.2.1 z.2.2.1) (fun z=>z.1)
   (fun z=>cB l z.2.2.2∧z.2.2.2.deep=s.deep+1∧jA (pe l (G l) z.1 z.2.1 z.2.2.2) (fun x s'=>cB l { s' with deep:=s'.deep - 1 }→K0 x { s' with deep:=s'.deep - 1 }) E0∧(z.2.1.bM≠[]→¬z.2.2.1=i1∧¬z.2.2.1=i2∧¬z.2.2.1=i3∧¬z.2.2.1=i4))
   (l.length+1,.mk 24 0 x 0 [],0,dT) ⟨jV,d2,k,fun h=>absurd rfl h⟩ (by simp only [an,aB,seval]) (aa.aS _) ?_
  clear hw CT
  rintro ⟨j,n,r,gW⟩ Q ⟨nI,d0,hw,hr⟩ hQ
  simp only at nI d0 hw hr hQ ⊢
  cases j with
  | zero=>exact hw.elim
  | succ j=>
  unfold pe at hw
  rw [aE] at hw
  obtain ⟨nk,nt,ns,nm,nl⟩:=n
  simp only [Nd.bM] at hw hr
  by_cases sU:nl=[]
  ·subst sU
   have hH:∀h:aa,gx h (.mk nk nt ns nm []) r=h:=fun h=>if_pos rfl
   rw [hH,ky,List.length_nil,fN]
   simp (maxSteps:=1000000) only [hp,al,ak,av,ar,au,aq,aH,aK,aG,aJ,aF,aI,ao,aw,ah,aj,aD,aU,aW,ag,ae,ab,af,ax,aC,an,aB,seval]
   refine ⟨l,gW,i1,[41],rfl,hl.lo,(by simp [al,ak,av,ar,au,aq,aH,aK,aG,aJ,aF,aI]),nI,ay (fun b bZ e1 k gg=>?_) (fun a e k s'=>?_) hw⟩
   case refine_2=>
    simp only [bu,af,ab,List.nil_append,List.append_nil]
    refine ⟨rfl,i3,i1,l,s',rfl,by simp [al,ak,av,ar,au,aq,aH,aK,aG,aJ,aF,aI],by simp [al,ak,av,ar,au,aq,aH,aK,aG,aJ,aF,aI],?_⟩
    simp only [ax]
    exact aA (s':={ s' with deep:=IntKind.i64.wrap (s'.deep - 1) }) (by simp [al,ak,av,ar,au,aq,aH,aK,aG,aJ,aF,aI]) k
   have d1:bZ.deep=s.deep+1:=(bD _ _ e1).trans d0
   cases b with
   | true=>
    rw [cond_true,b_] at k
    have k:=k (hO ok gg d1).1
    have wd:=(hO ok gg d1).2
    simp (maxSteps:=1000000) only [hp,al,ak,av,ar,au,aq,aH,aK,aG,aJ,aF,aI,ao,aw,ah,aj,aD,aU,aW,ag,ae,ab,af,ax,aC,an,aB,seval]
    refine ⟨rfl,i3,i1,l,bZ,rfl,(by simp [al,ak,av,ar,au,aq,aH,aK,aG,aJ,aF,aI]),(by simp [al,ak,av,ar,au,aq,aH,aK,aG,aJ,aF,aI]),?_⟩
    rw [wd]
    simp (maxSteps:=1000000) only [hp,al,ak,av,ar,au,aq,aH,aK,aG,aJ,aF,aI,ao,aw,ah,aj,aD,aU,aW,ag,ae,ab,af,ax,aC,an,aB,seval]
    exact fK (x:=.mk nk nt ns nm []) (s':={ bZ with deep:=bZ.deep - 1 }) (by rw [cz,aR,bt]) (by simp [al,ak,av,ar,au,aq,aH,aK,aG,aJ,aF,aI]) k
   | false=>
    rw [cond_false] at k
    replace k:jA (((G l).expr 0 bZ).bind fun x s=>pe l (G l) j ((Nd.mk nk nt ns nm []).c_ x) s) (fun x s'=>cB l { s' with deep:=s'.deep - 1 }→K0 x { s' with deep:=s'.deep - 1 }) E0:=k
    rw [aE] at k
    simp (maxSteps:=1000000) only [hp,al,ak,av,ar,au,aq,aH,aK,aG,aJ,aF,aI,ao,aw,ah,aj,aD,aU,aW,ag,ae,ab,af,ax,aC,an,aB,seval]
    refine ⟨l,bZ,i1,0,rfl,hl,(by simp [al,ak,av,ar,au,aq,aH,aK,aG,aJ,aF,aI]),gg,ay (fun y dT e2 k jV=>?_) (fun a e k s'=>?_) k⟩
    case refine_2=>
     intro σ hσ _
     simp only [bu]
     rw [hσ]
     show eJ yc [⟨.func 100,[.ptr i3 1 0],[]⟩] _ _ _
     simp only [af,ab,List.nil_append]
     refine ⟨rfl,i3,i1,l,s',rfl,by simp [al,ak,av,ar,au,aq,aH,aK,aG,aJ,aF,aI],by simp [al,ak,av,ar,au,aq,aH,aK,aG,aJ,aF,aI],?_⟩
     simp only [ax]
     exact aA (s':={ s' with deep:=IntKind.i64.wrap (s'.deep - 1) }) (by simp [al,ak,av,ar,au,aq,aH,aK,aG,aJ,aF,aI]) k
    have d2:dT.deep=s.deep+1:=((hG l).expr _ _ y dT e2).trans d1
    simp (maxSteps:=1000000) only [cz,hp,al,ak,av,ar,au,aq,aH,aK,aG,aJ,aF,aI,ao,aw,ah,aj,aD,aU,aW,ag,ae,ab,af,ax,aC,an,aB,seval]
    intro i5 bq bC bp bB bo bA bn bz
    simp (maxSteps:=1000000) only [hp,al,ak,av,ar,au,aq,aH,aK,aG,aJ,aF,aI,bq,bC,bp,bB,bo,bA,bn,bz,ao,aw,ah,aj,aD,aU,aW,ag,ae,ab,af,ax,aC,an,aB,seval]
    refine hQ (j,.mk nk nt ns nm [y],i5,dT) _ _ ⟨jV,d2,k,fun _=>⟨bn,bo,bp,bq⟩⟩ (by simp only [an,aB,seval]) ?_ (by simp only; omega)
    simp only [gx,Nd.bM,ky,List.length_cons,List.length_nil,cj,bt,reduceCtorEq,if_false,cp (Nat.succ_ne_zero 0)]
    exact aa.dL (by repeat' first | with_reducible exact aa.bF | with_reducible exact aa.bI | refine aa.cL (by simp [al,ak,av,ar,au,aq,aH,aK,aG,aJ,aF,aI,bq,bC,bp,bB,bo,bA,bn,bz]) ?_ | refine aa.cR (by simp [al,ak,av,ar,au,aq,aH,aK,aG,aJ,aF,aI,bq,bC,bp,bB,bo,bA,bn,bz]) ?_)
  ·obtain ⟨i5,rfl⟩:∃q,q=r:=⟨r,rfl⟩
   obtain ⟨bn,bo,bp,bq⟩:=hr sU
   have bz:¬i1=i5:=fun e=>bn e.symm
   have bA:¬i2=i5:=fun e=>bo e.symm
   have bB:¬i3=i5:=fun e=>bp e.symm
   have bC:¬i4=i5:=fun e=>bq e.symm
   have hH:∀h:aa,gx h (.mk nk nt ns nm nl) i5=h.set i5 (.row 5 (nl.length+2) (Nd.cN nl) false):=fun h=>if_neg sU
   have Fm:nl.length≠0:=fun e=>sU (List.length_eq_zero_iff.1 e)
   have tk:(Nd.cN nl).take nl.length=Nd.cN nl:=List.take_of_length_le (by rw [aV]; omega)
   rw [hH,ky,cp Fm]
   simp (maxSteps:=1000000) only [hp,al,ak,av,ar,au,aq,aH,aK,aG,aJ,aF,aI,bq,bC,bp,bB,bo,bA,bn,bz,ao,aw,ah,aj,aD,aU,aW,ag,ae,ab,af,ax,aC,an,aB,seval]
   refine ⟨l,gW,i1,[41],rfl,hl.lo,(by simp [al,ak,av,ar,au,aq,aH,aK,aG,aJ,aF,aI,bq,bC,bp,bB,bo,bA,bn,bz]),nI,ay (fun b bZ e1 k gg=>?_) (fun a e k s'=>?_) hw⟩
   case refine_2=>
    simp only [bu,af,ab,List.nil_append,List.append_nil]
    refine ⟨rfl,i3,i1,l,s',rfl,by simp [al,ak,av,ar,au,aq,aH,aK,aG,aJ,aF,aI,bq,bC,bp,bB,bo,bA,bn,bz],by simp [al,ak,av,ar,au,aq,aH,aK,aG,aJ,aF,aI,bq,bC,bp,bB,bo,bA,bn,bz],?_⟩
    simp only [ax]
    exact aA (s':={ s' with deep:=IntKind.i64.wrap (s'.deep - 1) }) (by simp [al,ak,av,ar,au,aq,aH,aK,aG,aJ,aF,aI,bq,bC,bp,bB,bo,bA,bn,bz]) k
   have d1:bZ.deep=s.deep+1:=(bD _ _ e1).trans d0
   cases b with
   | true=>
    rw [cond_true,b_] at k
    have k:=k (hO ok gg d1).1
    have wd:=(hO ok gg d1).2
    simp (maxSteps:=1000000) only [hp,al,ak,av,ar,au,aq,aH,aK,aG,aJ,aF,aI,bq,bC,bp,bB,bo,bA,bn,bz,ao,aw,ah,aj,aD,aU,aW,ag,ae,ab,af,ax,aC,an,aB,seval]
    refine ⟨rfl,i3,i1,l,bZ,rfl,(by simp [al,ak,av,ar,au,aq,aH,aK,aG,aJ,aF,aI,bq,bC,bp,bB,bo,bA,bn,bz]),(by simp [al,ak,av,ar,au,aq,aH,aK,aG,aJ,aF,aI,bq,bC,bp,bB,bo,bA,bn,bz]),?_⟩
    rw [wd]
    simp (maxSteps:=1000000) only [aV,tk,hp,al,ak,av,ar,au,aq,aH,aK,aG,aJ,aF,aI,bq,bC,bp,bB,bo,bA,bn,bz,ao,aw,ah,aj,aD,aU,aW,ag,ae,ab,af,ax,aC,an,aB,seval]
    exact fK (x:=.mk nk nt ns nm nl) (s':={ bZ with deep:=bZ.deep - 1 }) (by rw [cz,aR]) (by simp [al,ak,av,ar,au,aq,aH,aK,aG,aJ,aF,aI,bq,bC,bp,bB,bo,bA,bn,bz]) k
   | false=>
    rw [cond_false,aE] at k
    have g0:((nl.length:Int)>0)=True:=eq_true (by omega)
    replace k:=iv (p:=ff l [44] bZ) (by simp; omega) k
    simp (maxSteps:=1000000) only [g0,aV,hp,al,ak,av,ar,au,aq,aH,aK,aG,aJ,aF,aI,bq,bC,bp,bB,bo,bA,bn,bz,ao,aw,ah,aj,aD,aU,aW,ag,ae,ab,af,ax,aC,an,aB,seval]
    intro _
    refine ⟨l,bZ,i1,[44],rfl,hl.lo,(by simp [al,ak,av,ar,au,aq,aH,aK,aG,aJ,aF,aI,bq,bC,bp,bB,bo,bA,bn,bz]),gg,ay (fun _ dT e2 k jV=>?_) (fun a e k s'=>?_) k⟩
    case refine_2=>
     simp only [bu,af,ab,List.nil_append,List.append_nil]
     refine ⟨rfl,i3,i1,l,s',rfl,by simp [al,ak,av,ar,au,aq,aH,aK,aG,aJ,aF,aI,bq,bC,bp,bB,bo,bA,bn,bz],by simp [al,ak,av,ar,au,aq,aH,aK,aG,aJ,aF,aI,bq,bC,bp,bB,bo,bA,bn,bz],?_⟩
     simp only [ax]
     exact aA (s':={ s' with deep:=IntKind.i64.wrap (s'.deep - 1) }) (by simp [al,ak,av,ar,au,aq,aH,aK,aG,aJ,aF,aI,bq,bC,bp,bB,bo,bA,bn,bz]) k
    have d2:dT.deep=s.deep+1:=(cO _ _ e2).trans d1
    by_cases jR:nl.length≥6
    ·have g3:((nl.length:Int)≥6)=True:=eq_true (by omega)
     replace k:=iv (p:=ib l 3 dT) (by simpa [Nd.bM] using jR) k
     simp (maxSteps:=1000000) only [g3,aV,hp,al,ak,av,ar,au,aq,aH,aK,aG,aJ,aF,aI,bq,bC,bp,bB,bo,bA,bn,bz,ao,aw,ah,aj,aD,aU,aW,ag,ae,ab,af,ax,aC,an,aB,seval]
     intro _
     refine ⟨l,dT,i1,3,rfl,(by simp [al,ak,av,ar,au,aq,aH,aK,aG,aJ,aF,aI,bq,bC,bp,bB,bo,bA,bn,bz]),jV.at_,?_⟩
     simp only [bu]
     show eJ yc [⟨.func 100,[.ptr i3 1 0],[]⟩] _ _ _
     simp only [af,ab,List.nil_append]
     refine ⟨rfl,i3,i1,l,dT,rfl,(by simp [al,ak,av,ar,au,aq,aH,aK,aG,aJ,aF,aI,bq,bC,bp,bB,bo,bA,bn,bz]),(by simp [al,ak,av,ar,au,aq,aH,aK,aG,aJ,aF,aI,bq,bC,bp,bB,bo,bA,bn,bz]),?_⟩
     simp only [ax]
     exact aA (s':={ dT with deep:=IntKind.i64.wrap (dT.deep - 1) }) (by simp [al,ak,av,ar,au,aq,aH,aK,aG,aJ,aF,aI,bq,bC,bp,bB,bo,bA,bn,bz]) k
    ·have g3:((nl.length:Int)≥6)=False:=eq_false (by omega)
     replace k:=mG (q:=((G l).expr 0 dT).bind fun x s=>pe l (G l) j ((Nd.mk nk nt ns nm nl).c_ x) s) (by simpa [Nd.bM] using jR) k
     rw [aE] at k
     simp (maxSteps:=1000000) only [g3,aV,hp,al,ak,av,ar,au,aq,aH,aK,aG,aJ,aF,aI,bq,bC,bp,bB,bo,bA,bn,bz,ao,aw,ah,aj,aD,aU,aW,ag,ae,ab,af,ax,aC,an,aB,seval]
     intro _
     refine ⟨l,dT,i1,0,rfl,hl,(by simp [al,ak,av,ar,au,aq,aH,aK,aG,aJ,aF,aI,bq,bC,bp,bB,bo,bA,bn,bz]),jV,ay (fun y ez e3 k mQ=>?_) (fun a e k s'=>?_) k⟩
     case refine_2=>
      intro σ hσ _
      simp only [bu]
      rw [hσ]
      show eJ yc [⟨.func 100,[.ptr i3 1 0],[]⟩] _ _ _
      simp only [af,ab,List.nil_append]
      refine ⟨rfl,i3,i1,l,s',rfl,by simp [al,ak,av,ar,au,aq,aH,aK,aG,aJ,aF,aI,bq,bC,bp,bB,bo,bA,bn,bz],by simp [al,ak,av,ar,au,aq,aH,aK,aG,aJ,aF,aI,bq,bC,bp,bB,bo,bA,bn,bz],?_⟩
      simp only [ax]
      exact aA (s':={ s' with deep:=IntKind.i64.wrap (s'.deep - 1) }) (by simp [al,ak,av,ar,au,aq,aH,aK,aG,aJ,aF,aI,bq,bC,bp,bB,bo,bA,bn,bz]) k
     have d3:ez.deep=s.deep+1:=((hG l).expr _ _ y ez e3).trans d2
     simp (maxSteps:=1000000) only [cz,aV,hp,al,ak,av,ar,au,aq,aH,aK,aG,aJ,aF,aI,bq,bC,bp,bB,bo,bA,bn,bz,ao,aw,ah,aj,aD,aU,aW,ag,ae,ab,af,ax,aC,an,aB,seval]
     refine ⟨by omega,hQ (j,.mk nk nt ns nm (nl++[y]),i5,ez) _ _ ⟨mQ,d3,k,fun _=>⟨bn,bo,bp,bq⟩⟩ (by simp only [an,aB,seval]) ?_ (by simp only; omega)⟩
     have iw:nl++[y]≠[]:=by simp
     simp only [gx,Nd.bM,ky,List.length_append,List.length_cons,List.length_nil,iw,if_false,←jY,cp (show nl.length+(0+1)≠0 by omega)]
     rw [show nl.length+2+1=nl.length+(0+1)+2 by omega]
     exact aa.dL (by repeat' first | with_reducible exact aa.bF | with_reducible exact aa.bI | refine aa.cL (by simp [al,ak,av,ar,au,aq,aH,aK,aG,aJ,aF,aI,bq,bC,bp,bB,bo,bA,bn,bz]) ?_ | refine aa.cR (by simp [al,ak,av,ar,au,aq,aH,aK,aG,aJ,aF,aI,bq,bC,bp,bB,bo,bA,bn,bz]) ?_)
end
end Go.Proofs.YtpklkpkfgmoghaaGreatDoor.Zz
namespace Go.Proofs.YtpklkpkfgmoghaaGreatDoor.Zz
noncomputable section
def YU:b7:=⟨⟨[],[(4,2),(5,1),(6,3),(6,6),(8,1),(14,3),(15,1),(16,3),(16,6),(17,1),(20,1),(21,1),(22,1),(24,1),(25,1),(26,2),(27,3)],[],[],[],[]⟩,[],[],false⟩
def TM:dA:=
 sO [oA 2]
 (.seq (sO [oP (.buildSlice 1 [(.str [])] 2 [(0,(kS [45])),(1,(kS [33]))] false) 12,
 oZ 12 13,
 oP (.cg (kI 0)) 14]
 (.block 0 (.loop (sO [oE .lss 14 13 15]
 (.seq (.cond (.t 15)
 (.skip)
 (.exit 0))
 (.seq (.block 1 (sO [oI 1 12 14 16,
 oL 16 17,
 oM 17 4]
 (sO [oM 0 18,
 oM 4 19,
 oC 57 [.t 18,.t 19] 20]
 (.cond (.t 20)
 (.seq (sO [oM 0 21,
 oC 84 [.t 21] 22]
 (.defer (.t 22) []))
 (sO [oM 0 23,
 oM 4 24,
 oM 0 25,
 oC 119 [.t 25] 26,
 oP (.buildSlice 5 zN 1 [(0,(.t 26))] false) 27,
 oP (.build zN [(0,1,(kI 25)),(2,1,(.t 24)),(4,1,(.t 27))]) 28,
 oC 35 [.t 23,.t 28] 29,
 oS 5 2 29]
 (.ret)))
 (.skip)))))
 (.ops [oH .add 14 1 30,
 oM 30 14])))))))
 (.seq (sO [oM 0 32,
 oC 81 [.t 32] 33,
 oM 33 31,
 oX 31 0 34,
 oX 31 1 35,
 oA 5,
 oS 5 5 34,
 oM 35 6]
 (sO [oM 6 36]
 (.cond (.t 36)
 (sO [oJ 5 5 37,
 oS 5 2 37]
 (.ret))
 (.skip))))
 (.seq (sO [oP (.buildSlice 1 [(.int .i64 0)] 2 [(0,(kI 1)),(1,(kI 2))] false) 38,
 oZ 38 39,
 oP (.cg (kI 0)) 40]
 (.block 2 (.loop (sO [oE .lss 40 39 41]
 (.seq (.cond (.t 41)
 (.skip)
 (.exit 2))
 (.seq (.block 3 (sO [oI 1 38 40 42,
 oL 42 43,
 oM 43 8]
 (sO [oM 0 44,
 oM 8 45,
 oD 41 [.t 45] 46,
 oC 57 [.t 44,.t 46] 47]
 (.cond (.t 47)
 (sO [oM 0 48,
 oC 60 [.t 48,kS [40]] 49]
 (sO [oM 0 50,
 oM 8 51,
 oM 0 52,
 oC 102 [.t 52,kI 0] 53,
 oP (.buildSlice 5 zN 1 [(0,(.t 53))] false) 54,
 oP (.build zN [(0,1,(kI 27)),(1,1,(.t 51)),(4,1,(.t 54))]) 55,
 oC 35 [.t 50,.t 55] 56,
 oA 9,
 oS 5 9 56]
 (sO [oM 0 57,
 oC 60 [.t 57,kS [41]] 58]
 (sO [oJ 5 9 59,
 oS 5 2 59]
 (.ret)))))
 (.skip)))))
 (.ops [oH .add 40 1 60,
 oM 60 40])))))))
 (.seq (sO [oM 0 61,
 oC 57 [.t 61,kS [40]] 62]
 (.cond (.t 62)
 (sO [oM 0 63,
 oC 102 [.t 63,kI 0] 64,
 oA 10,
 oS 5 10 64]
 (sO [oM 0 65,
 oC 60 [.t 65,kS [41]] 66]
 (sO [oJ 5 10 67,
 oS 5 2 67]
 (.ret))))
 (.skip)))
 (sO [oM 0 68,
 oC 58 [.t 68] 69,
 oM 69 11]
 (.seq (sO [oM 0 70,
 oC 37 [.t 70,kS [40]] 71]
 (.cond (.t 71)
 (sO [oM 0 72,
 oM 11 73,
 oC 104 [.t 72,.t 73] 74,
 oS 5 2 74]
 (.ret))
 (.skip)))
 (sO [oM 0 75,
 oM 11 76,
 oP (.build zN [(0,1,(kI 23)),(2,1,(.t 76))]) 77,
 oC 35 [.t 75,.t 77] 78,
 oS 5 2 78]
 (.ret))))))))
theorem WD:bE Tryz.prog 119 YU=some (TM,[.cell 2 (some 5)],79):=by kernel_rfl
def unA (l:List Tok) (g:dU) (s:PS):PR Nd:=(dw l [40] s).bind fun b s=>bif b then (g.expr 0 s).bind fun n s=>(ff l [41] s).bind fun _ s=>.ok n s else
 (iH l s).bind fun x s=>bif lQ l [40] s then g.call x s else dB l (.mk 23 0 x 0 []) s
def unB (l:List Tok) (g:dU) (s:PS):PR Nd:=(dw l fF s).bind fun b s=>bif b then pt l g 2 s else unA l g s
def unC (l:List Tok) (g:dU) (s:PS):PR Nd:=(dw l mF s).bind fun b s=>bif b then pt l g 1 s else unB l g s
def unD (l:List Tok) (g:dU) (s:PS):PR Nd:=(lu l s).bind fun x s=>bif x.2 then .ok x.1 s else unC l g s
def unE (l:List Tok) (g:dU) (s:PS):PR Nd:=(dw l [33] s).bind fun b s=>bif b then RN l g [33] s else unD l g s
def unF (l:List Tok) (g:dU) (s:PS):PR Nd:=(dw l [45] s).bind fun b s=>bif b then RN l g [45] s else unE l g s
theorem Qt (l:List Tok) (g:dU):n_ l g=unF l g:=rfl
def unI (l:List Tok) (g:dU):Nat→PS→PR Nd
 | 0=>unF l g
 | 1=>unE l g
 | _=>unD l g
def unJ (l:List Tok) (g:dU):Nat→PS→PR Nd
 | 0=>unC l g
 | 1=>unB l g
 | _=>unA l g
theorem Ia {l:List Tok} {x:List UInt8} {s bZ:PS} (h:dw l x s=.ok false bZ):bZ=s:=by
 unfold dw at h
 cases c:lQ l x s with
 | true=>rw [c] at h; cases h
 | false=>rw [c] at h; cases h; rfl
set_option maxHeartbeats 1000000 in
theorem SV (G:List Tok→dU) (hG:∀l,mW (G l)) (hT:(xx G).ok Tryz.prog) (l:List Tok) (hl:uw l) (s:PS) (i1:Nat) (ok:cB l s) (K0:Nd→PS→Prop) (E0:Int→Int→Prop) (hw:jA (n_ l (G l) s) (fun x s'=>cB l s'→K0 x s') E0):aO Tryz.prog 119 [.ptr i1 1 0] (aa.emp.set i1 (bV l s)) (ly cz l i1 K0 E0):=by
 refine aO.c8 hT (dc:=yc) vf (by kernel_rfl) WD (by simp) ?_
 rw [dz]
 have hp:=fun (h:aa) (j:Nat) (B C:cI)=>push_id (id:=i1) h j B C
 rw [Qt] at hw
 simp (maxSteps:=1000000) only [TM,hp,hp,ao,aw,ah,aj,aD,aU,aW,ag,ae,ab,af,ax,aC,an,aB,seval]
 intro i2 al ak
 refine cS (X:=Nat) (fun i=>[(0,.ptr i1 1 0),(2,.ptr i2 1 0),(12,.sl [[.str [45]],[.str [33]]]),(13,.int .i64 2),(14,.int .i64 i)]) (fun _=>(aa.emp.set i1 (bV l s)).set i2 (.cells [.int .i64 0,.int .i64 0,.str [],.int .i64 0,.a_])) (fun i=>3 - i)
  (fun i=>i≤2∧jA (unI l (G l) i s) (fun x s'=>cB l s'→K0 x s') E0) 0 ⟨by omega,hw⟩ (by simp only [an,aB,seval]) (aa.aS _) ?_
 clear hw
 rintro i Q ⟨hi,hw⟩ hQ
 by_cases XA:i<2
 ·have g0:((i:Int)<2)=True:=eq_true (by omega)
  have wi:IntKind.i64.wrap ((i:Int)+1)=((i+1:Nat):Int):=cW (by omega)
  obtain ⟨x,hx,hw⟩:∃x,([[45],[33]]:List (List UInt8))[i]? =some x∧jA ((dw l x s).bind fun b s=>bif b then RN l (G l) x s else unI l (G l) (i+1) s) (fun x s'=>cB l s'→K0 x s') E0:=by
   rcases (by omega:i=0∨i=1) with rfl | rfl
   ·exact ⟨_,rfl,hw⟩
   ·exact ⟨_,rfl,hw⟩
  have qz:∀(K:D→aa→Prop) (h:aa),iC 1 K h [[.str [45]],[.str [33]]] (i:Int)=K (.cU [.str x] 0) h:=fun K h=>by
   have:=lE (K:=K) (h:=h) (l:=([[45],[33]]:List (List UInt8))) (i:=(i:Int)) (f:=fun b:List UInt8=>[D.str b]) (sz:=1) fun _=>rfl
   refine Eq.trans this (propext ⟨fun hh=>hh.2 x (by simpa using hx),fun hh=>⟨⟨by omega,by simp; omega⟩,fun y hy=>?_⟩⟩)
   rw [Int.toNat_natCast,hx] at hy
   cases hy
   exact hh
  rw [aE] at hw
  simp (maxSteps:=1000000) only [g0,qz,hp,al,ak,ao,aw,ah,aj,aD,aU,aW,ag,ae,ab,af,ax,aC,an,aB,seval]
  refine ⟨l,s,i1,x,rfl,hl.lo,(by simp [al,ak]),ok,ay (fun b bZ e1 k gg=>?_) (fun a e k s'=>?_) hw⟩
  case refine_2=>
   simp only [bu,ab,ax]
   exact aA (s':=s') (by simp [al,ak]) k
  cases b with
  | false=>
   have:=Ia e1
   subst this
   rw [cond_false] at k
   simp (maxSteps:=1000000) only [wi,hp,al,ak,ao,aw,ah,aj,aD,aU,aW,ag,ae,ab,af,ax,aC,an,aB,seval]
   exact hQ (i+1) _ _ ⟨by omega,k⟩ (by simp only [an,aB,seval]) (aa.aS _) (by omega)
  | true=>
   rw [cond_true] at k
   have w1:IntKind.i64.wrap (bZ.deep+1)=bZ.deep+1:=wrap_i64 (by have:=gg.d0; omega) (by have:=gg.d1; omega)
   unfold RN kP TA at k
   rw [aE] at k
   simp (maxSteps:=1000000) only [D0,bV,hp,al,ak,ao,aw,ah,aj,aD,aU,aW,ag,ae,ab,af,ax,aC,an,aB,seval]
   intro i3 av ar au aq
   by_cases c:bZ.deep+1>40
   ·have g:(bZ.deep+1>40)=True:=eq_true c
    rw [if_pos c] at k
    simp (maxSteps:=1000000) only [g,w1,hp,al,ak,av,ar,au,aq,ao,aw,ah,aj,aD,aU,aW,ag,ae,ab,af,ax,aC,an,aB,seval]
    refine ⟨l,{ bZ with deep:=bZ.deep+1 },i1,3,rfl,by simp [bV,al,ak,av,ar,au,aq],gg.at_,?_⟩
    simp only [Dt,bu,true_and]
    refine ⟨rfl,?_⟩
    show eJ yc [] (some (mN _ 3)) _ _
    simp only [ab,ax]
    exact aA (s':={ bZ with deep:=bZ.deep+1 }) (by simp [bV,al,ak,av,ar,au,aq]) k
   ·have g:(bZ.deep+1>40)=False:=eq_false c
    rw [if_neg c,b_] at k
    have QO:=vj gg c
    simp only [Gm,aE,b_] at k
    simp (maxSteps:=1000000) only [g,w1,hp,al,ak,av,ar,au,aq,ao,aw,ah,aj,aD,aU,aW,ag,ae,ab,af,ax,aC,an,aB,seval]
    generalize CT:({ bZ with deep:=bZ.deep+1 }:PS)=sd at*
    have QH:sd.deep=bZ.deep+1:=by rw [←CT]
    refine ⟨l,sd,i1,rfl,hl,by rw [←CT]; simp [bV,al,ak,av,ar,au,aq],QO,ay (fun n dT e2 k jV=>?_) (fun a e k s'=>?_) k⟩
    case refine_2=>
     simp only [bu,af,ab,List.nil_append,List.append_nil]
     refine ⟨rfl,i3,i1,l,s',rfl,by simp [al,ak,av,ar,au,aq],by simp [al,ak,av,ar,au,aq],?_⟩
     simp only [ax]
     exact aA (s':={ s' with deep:=IntKind.i64.wrap (s'.deep - 1) }) (by simp [al,ak,av,ar,au,aq]) k
    have d2:dT.deep=bZ.deep+1:=((hG l).unary _ _ _ e2).trans QH
    simp (maxSteps:=1000000) only [cz,hp,al,ak,av,ar,au,aq,ao,aw,ah,aj,aD,aU,aW,ag,ae,ab,af,ax,aC,an,aB,seval]
    refine .inl ⟨l,dT,i1,.mk 25 0 x 0 [n],by simp only [aR,cj,bt],hl.lo,(by simp [al,ak,av,ar,au,aq]),jV,ay (fun n2 ez e3 k mQ=>?_) (fun a e k s'=>?_) k⟩
    case refine_2=>
     simp only [bu,af,ab,List.nil_append,List.append_nil]
     refine ⟨rfl,i3,i1,l,s',rfl,by simp [al,ak,av,ar,au,aq],by simp [al,ak,av,ar,au,aq],?_⟩
     simp only [ax]
     exact aA (s':={ s' with deep:=IntKind.i64.wrap (s'.deep - 1) }) (by simp [al,ak,av,ar,au,aq]) k
    have d3:ez.deep=bZ.deep+1:=(bT _ _ e3).trans d2
    have k:=k (hO gg mQ d3).1
    have wd:=(hO gg mQ d3).2
    simp (maxSteps:=1000000) only [cz,hp,al,ak,av,ar,au,aq,ao,aw,ah,aj,aD,aU,aW,ag,ae,ab,af,ax,aC,an,aB,seval]
    refine ⟨rfl,i3,i1,l,ez,rfl,(by simp [al,ak,av,ar,au,aq]),(by simp [al,ak,av,ar,au,aq]),?_⟩
    rw [wd]
    simp (maxSteps:=1000000) only [cz,hp,al,ak,av,ar,au,aq,ao,aw,ah,aj,aD,aU,aW,ag,ae,ab,af,ax,aC,an,aB,seval]
    exact cd (x:=n2) (s':={ ez with deep:=ez.deep - 1 }) rfl (by simp [al,ak,av,ar,au,aq]) k
 ·have e0:i=2:=by omega
  subst e0
  clear hQ hi
  replace hw:jA (unD l (G l) s) (fun x s'=>cB l s'→K0 x s') E0:=hw
  unfold unD at hw
  rw [aE] at hw
  simp (maxSteps:=1000000) only [hp,al,ak,ao,aw,ah,aj,aD,aU,aW,ag,ae,ab,af,ax,aC,an,aB,seval]
  refine ⟨l,s,i1,rfl,hl,(by simp [al,ak]),ok,ay (fun xb bZ e1 k gg=>?_) (fun a e k s'=>?_) hw⟩
  case refine_2=>
   simp only [bu,ab,ax]
   exact aA (s':=s') (by simp [al,ak]) k
  obtain ⟨n,b⟩:=xb
  simp (maxSteps:=1000000) only [hp,al,ak,ao,aw,ah,aj,aD,aU,aW,ag,ae,ab,af,ax,aC,an,aB,seval]
  intro i3 av ar au aq
  cases b with
  | true=>
   rw [cond_true,b_] at k
   simp (maxSteps:=1000000) only [hp,al,ak,av,ar,au,aq,ao,aw,ah,aj,aD,aU,aW,ag,ae,ab,af,ax,aC,an,aB,seval]
   exact cd (x:=n) (s':=bZ) rfl (by simp [al,ak,av,ar,au,aq]) (k gg)
  | false=>
  rw [cond_false] at k
  clear hw
  simp (maxSteps:=1000000) only [hp,al,ak,av,ar,au,aq,ao,aw,ah,aj,aD,aU,aW,ag,ae,ab,af,ax,aC,an,aB,seval]
  refine cS (X:=Nat) (fun i=>[(0,.ptr i1 1 0),(2,.ptr i2 1 0),(38,.sl [[.int .i64 1],[.int .i64 2]]),(39,.int .i64 2),(40,.int .i64 i)]) (fun _=>(aa.emp.set i1 (bV l bZ)).set i2 (.cells [.int .i64 0,.int .i64 0,.str [],.int .i64 0,.a_])) (fun i=>3 - i)
   (fun i=>i≤2∧jA (unJ l (G l) i bZ) (fun x s'=>cB l s'→K0 x s') E0) 0 ⟨by omega,k⟩ (by simp only [an,aB,seval]) (by exact aa.dL (by repeat' first | with_reducible exact aa.bF | with_reducible exact aa.bI | refine aa.cL (by simp [al,ak,av,ar,au,aq]) ?_ | refine aa.cR (by simp [al,ak,av,ar,au,aq]) ?_)) ?_
  clear k e1
  rintro i Q ⟨hi,hw⟩ hQ
  by_cases XA:i<2
  ·have g0:((i:Int)<2)=True:=eq_true (by omega)
   have wi:IntKind.i64.wrap ((i:Int)+1)=((i+1:Nat):Int):=cW (by omega)
   replace hw:jA ((dw l (fx ((i+1:Nat):Int)) bZ).bind fun b s=>bif b then pt l (G l) ((i+1:Nat):Int) s else unJ l (G l) (i+1) s) (fun x s'=>cB l s'→K0 x s') E0:=by
    rcases (by omega:i=0∨i=1) with rfl | rfl
    ·exact hw
    ·exact hw
   have qz:∀(K:D→aa→Prop) (h:aa),iC 1 K h [[.int .i64 1],[.int .i64 2]] (i:Int)=K (.cU [.int .i64 ((i+1:Nat):Int)] 0) h:=fun K h=>by
    have:=lE (K:=K) (h:=h) (l:=([1,2]:List Int)) (i:=(i:Int)) (f:=fun b:Int=>[D.int .i64 b]) (sz:=1) fun _=>rfl
    have hx:([1,2]:List Int)[i]? =some ((i+1:Nat):Int):=by
     rcases (by omega:i=0∨i=1) with rfl | rfl<;>rfl
    refine Eq.trans this (propext ⟨fun hh=>hh.2 _ (by simpa using hx),fun hh=>⟨⟨by omega,by simp; omega⟩,fun y hy=>?_⟩⟩)
    rw [Int.toNat_natCast,hx] at hy
    cases hy
    exact hh
   have hq:xP [.int .i64 ((i+1:Nat):Int)]=some (.str (fx ((i+1:Nat):Int))):=rfl
   generalize hv:((i+1:Nat):Int)=v at*
   rw [aE] at hw
   simp (maxSteps:=1000000) only [g0,qz,hq,hp,al,ak,ao,aw,ah,aj,aD,aU,aW,ag,ae,ab,af,ax,aC,an,aB,seval]
   refine ⟨l,bZ,i1,fx v,rfl,hl.lo,(by simp [al,ak]),gg,ay (fun b dT e2 k jV=>?_) (fun a e k s'=>?_) hw⟩
   case refine_2=>
    simp only [bu,ab,ax]
    exact aA (s':=s') (by simp [al,ak]) k
   cases b with
   | false=>
    have:=Ia e2
    subst this
    rw [cond_false] at k
    simp (maxSteps:=1000000) only [wi,hp,al,ak,ao,aw,ah,aj,aD,aU,aW,ag,ae,ab,af,ax,aC,an,aB,seval]
    exact hQ (i+1) _ _ ⟨by omega,k⟩ (by simp only [hv,an,aB,seval]) (aa.aS _) (by omega)
   | true=>
    rw [cond_true] at k
    unfold pt at k
    rw [aE] at k
    simp (maxSteps:=1000000) only [hp,al,ak,ao,aw,ah,aj,aD,aU,aW,ag,ae,ab,af,ax,aC,an,aB,seval]
    refine ⟨l,dT,i1,[40],rfl,hl.lo,(by simp [al,ak]),jV,ay (fun _ ez e3 k mQ=>?_) (fun a e k s'=>?_) k⟩
    case refine_2=>
     simp only [bu,ab,ax]
     exact aA (s':=s') (by simp [al,ak]) k
    rw [aE] at k
    simp (maxSteps:=1000000) only [hp,al,ak,ao,aw,ah,aj,aD,aU,aW,ag,ae,ab,af,ax,aC,an,aB,seval]
    refine ⟨l,ez,i1,0,rfl,hl,(by simp [al,ak]),mQ,ay (fun n mK e4 k uq=>?_) (fun a e k s'=>?_) k⟩
    case refine_2=>
     simp only [bu,ab,ax]
     exact aA (s':=s') (by simp [al,ak]) k
    rw [aE] at k
    simp (maxSteps:=1000000) only [cz,hp,al,ak,ao,aw,ah,aj,aD,aU,aW,ag,ae,ab,af,ax,aC,an,aB,seval]
    refine .inl ⟨l,mK,i1,.mk 27 v [] 0 [n],by simp only [aR,cj,bt],hl.lo,(by simp [al,ak]),uq,ay (fun n2 xw e5 k Dm=>?_) (fun a e k s'=>?_) k⟩
    case refine_2=>
     simp only [bu,ab,ax]
     exact aA (s':=s') (by simp [al,ak]) k
    rw [aE] at k
    simp (maxSteps:=1000000) only [cz,hp,al,ak,ao,aw,ah,aj,aD,aU,aW,ag,ae,ab,af,ax,aC,an,aB,seval]
    intro i3 av ar au aq
    refine ⟨l,xw,i1,[41],rfl,hl.lo,(by simp [al,ak,av,ar,au,aq]),Dm,ay (fun _ wF e6 k Lq=>?_) (fun a e k s'=>?_) k⟩
    case refine_2=>
     simp only [bu,ab,ax]
     exact aA (s':=s') (by simp [al,ak,av,ar,au,aq]) k
    rw [b_] at k
    simp (maxSteps:=1000000) only [hp,al,ak,av,ar,au,aq,ao,aw,ah,aj,aD,aU,aW,ag,ae,ab,af,ax,aC,an,aB,seval]
    exact cd (x:=n2) (s':=wF) rfl (by simp [al,ak,av,ar,au,aq]) (k Lq)
  ·have e0:i=2:=by omega
   subst e0
   clear hQ hi
   replace hw:jA (unA l (G l) bZ) (fun x s'=>cB l s'→K0 x s') E0:=hw
   unfold unA at hw
   rw [aE] at hw
   simp (maxSteps:=1000000) only [hp,al,ak,ao,aw,ah,aj,aD,aU,aW,ag,ae,ab,af,ax,aC,an,aB,seval]
   refine ⟨l,bZ,i1,[40],rfl,hl.lo,(by simp [al,ak]),gg,ay (fun b dT e2 k jV=>?_) (fun a e k s'=>?_) hw⟩
   case refine_2=>
    simp only [bu,ab,ax]
    exact aA (s':=s') (by simp [al,ak]) k
   cases b with
   | true=>
    rw [cond_true,aE] at k
    simp (maxSteps:=1000000) only [hp,al,ak,ao,aw,ah,aj,aD,aU,aW,ag,ae,ab,af,ax,aC,an,aB,seval]
    refine ⟨l,dT,i1,0,rfl,hl,(by simp [al,ak]),jV,ay (fun n ez e3 k mQ=>?_) (fun a e k s'=>?_) k⟩
    case refine_2=>
     simp only [bu,ab,ax]
     exact aA (s':=s') (by simp [al,ak]) k
    rw [aE] at k
    simp (maxSteps:=1000000) only [cz,hp,al,ak,ao,aw,ah,aj,aD,aU,aW,ag,ae,ab,af,ax,aC,an,aB,seval]
    intro i3 av ar au aq
    refine ⟨l,ez,i1,[41],rfl,hl.lo,(by simp [al,ak,av,ar,au,aq]),mQ,ay (fun _ mK e4 k uq=>?_) (fun a e k s'=>?_) k⟩
    case refine_2=>
     simp only [bu,ab,ax]
     exact aA (s':=s') (by simp [al,ak,av,ar,au,aq]) k
    rw [b_] at k
    simp (maxSteps:=1000000) only [hp,al,ak,av,ar,au,aq,ao,aw,ah,aj,aD,aU,aW,ag,ae,ab,af,ax,aC,an,aB,seval]
    exact cd (x:=n) (s':=mK) rfl (by simp [al,ak,av,ar,au,aq]) (k uq)
   | false=>
    rw [cond_false,aE] at k
    simp (maxSteps:=1000000) only [hp,al,ak,ao,aw,ah,aj,aD,aU,aW,ag,ae,ab,af,ax,aC,an,aB,seval]
    refine ⟨l,dT,i1,rfl,hl.lo,(by simp [al,ak]),jV,ay (fun x ez e3 k mQ=>?_) (fun a e k s'=>?_) k⟩
    case refine_2=>
     simp only [bu,ab,ax]
     exact aA (s':=s') (by simp [al,ak]) k
    simp (maxSteps:=1000000) only [hp,al,ak,ao,aw,ah,aj,aD,aU,aW,ag,ae,ab,af,ax,aC,an,aB,seval]
    refine ⟨l,ez,i1,[40],rfl,(by simp [al,ak]),mQ.at_,?_⟩
    cases uA:lQ l [40] ez with
    | true=>
     rw [uA,cond_true] at k
     simp (maxSteps:=1000000) only [hp,al,ak,ao,aw,ah,aj,aD,aU,aW,ag,ae,ab,af,ax,aC,an,aB,seval]
     refine ⟨l,ez,i1,x,rfl,hl,(by simp [al,ak]),mQ,ay (fun n mK e4 k uq=>?_) (fun a e k s'=>?_) k⟩
     case refine_2=>
      simp only [bu,ab,ax]
      exact aA (s':=s') (by simp [al,ak]) k
     simp (maxSteps:=1000000) only [cz,hp,al,ak,ao,aw,ah,aj,aD,aU,aW,ag,ae,ab,af,ax,aC,an,aB,seval]
     exact cd (x:=n) (s':=mK) rfl (by simp [al,ak]) (k uq)
    | false=>
     rw [uA,cond_false] at k
     simp (maxSteps:=1000000) only [hp,al,ak,ao,aw,ah,aj,aD,aU,aW,ag,ae,ab,af,ax,aC,an,aB,seval]
     refine .inl ⟨l,ez,i1,.mk 23 0 x 0 [],by simp only [aR,bt],hl.lo,(by simp [al,ak]),mQ,ay (fun n mK e4 k uq=>?_) (fun a e k s'=>?_) k⟩
     case refine_2=>
      simp only [bu,ab,ax]
      exact aA (s':=s') (by simp [al,ak]) k
     simp (maxSteps:=1000000) only [cz,hp,al,ak,ao,aw,ah,aj,aD,aU,aW,ag,ae,ab,af,ax,aC,an,aB,seval]
     exact cd (x:=n) (s':=mK) rfl (by simp [al,ak]) (k uq)
end
end Go.Proofs.YtpklkpkfgmoghaaGreatDoor.Zz
namespace Go.Proofs.YtpklkpkfgmoghaaGreatDoor.Zz
noncomputable section
def acZ:b7:=⟨⟨[],[(1,1),(2,1),(3,1),(4,2),(5,1),(5,3),(7,1),(8,1),(9,1),(10,1),(11,1),(12,1),(13,2),(14,1),(15,1),(16,2),(17,1),(18,2),(19,2),(20,2),(21,1)],[],[],[],[]⟩,[],[],false⟩
def ZI:dA:=
 sO [oA 2]
 (.seq (.block 0 (sO [oM 0 7,
 oC 57 [.t 7,(kS [105,102])] 8,
 oM 8 6]
 (.cond (.t 6)
 (sO [oM 0 9,
 oC 101 [.t 9] 10,
 oS 5 2 10]
 (.ret))
 (sO [oM 0 12,
 oC 57 [.t 12,(kS [102,111,114])] 13,
 oM 13 11]
 (.cond (.t 11)
 (sO [oM 0 14,
 oP (.build zN [(0,1,(kI 10))]) 15,
 oC 35 [.t 14,.t 15] 16,
 oA 3,
 oS 5 3 16]
 (sO [oM 0 17,
 oC 102 [.t 17,kI 0] 18,
 oM 0 19,
 oC 62 [.t 19] 20,
 oP (.buildSlice 5 zN 2 [(0,(.t 18)),(1,(.t 20))] false) 21,
 oF 4 3 22,
 oS 1 22 21]
 (sO [oJ 5 3 23,
 oS 5 2 23]
 (.ret))))
 (sO [oM 0 25,
 oC 57 [.t 25,(kS [114,101,116,117,114,110])] 26,
 oM 26 24]
 (.cond (.t 24)
 (sO [oM 0 27,
 oC 103 [.t 27,kI 11,kS []] 28,
 oS 5 2 28]
 (.ret))
 (sO [oM 0 30,
 oC 57 [.t 30,(kS [97,115,115,101,114,116])] 31,
 oM 31 29]
 (.cond (.t 29)
 (sO [oM 0 32,
 oC 103 [.t 32,kI 12,kS []] 33,
 oS 5 2 33]
 (.ret))
 (sO [oM 0 35,
 oC 57 [.t 35,(kS [115,107,105,112])] 36,
 oM 36 34]
 (.cond (.t 34)
 (sO [oM 0 37,
 oC 60 [.t 37,kS [59]] 38]
 (sO [oM 0 39,
 oP (.build zN [(0,1,(kI 14))]) 40,
 oC 35 [.t 39,.t 40] 41,
 oS 5 2 41]
 (.ret)))
 (.skip))))))))))))
 (sO [oM 0 42,
 oC 58 [.t 42] 43,
 oM 43 4]
 (.seq (.block 1 (sO [oM 0 45,
 oC 57 [.t 45,(kS [58,61])] 46,
 oM 46 44]
 (.cond (.t 44)
 (sO [oM 0 47,
 oM 4 48,
 oC 103 [.t 47,kI 7,.t 48] 49,
 oS 5 2 49]
 (.ret))
 (sO [oM 0 51,
 oC 57 [.t 51,kS [61]] 52,
 oM 52 50]
 (.cond (.t 50)
 (sO [oM 0 53,
 oM 4 54,
 oC 103 [.t 53,kI 8,.t 54] 55,
 oS 5 2 55]
 (.ret))
 (.skip))))))
 (sO [oM 0 56,
 oP (.build zN [(0,1,(kI 13))]) 57,
 oC 35 [.t 56,.t 57] 58,
 oA 5,
 oS 5 5 58]
 (sO [oM 0 59,
 oM 4 60,
 oC 104 [.t 59,.t 60] 61,
 oP (.buildSlice 5 zN 1 [(0,(.t 61))] false) 62,
 oF 4 5 63,
 oS 1 63 62]
 (sO [oM 0 64,
 oC 60 [.t 64,kS [59]] 65]
 (sO [oJ 5 5 66,
 oS 5 2 66]
 (.ret))))))))
theorem aae:bE Tryz.prog 85 acZ=some (ZI,[.cell 2 (some 5)],67):=by kernel_rfl
def qo (G:List Tok→dU) (args:List D) (h:aa) (K E:D→aa→Prop):Prop:=∃(l:List Tok) (s:PS) (id:Nat) (k:Int) (x:List UInt8),args=[.ptr id 1 0,.int .i64 k,.str x]∧uw l∧cP (ic l (G l) k x) cz l s id h K E
theorem AK (G:List Tok→dU) (args:List D) (h:aa) (K E K' E':D→aa→Prop) (hk:∀d h,K d h→K' d h) (he:∀d h,E d h→E' d h) (c:qo G args h K E):qo G args h K' E':=by
 obtain ⟨l,s,id,k,x,a,b,c⟩:=c
 exact ⟨l,s,id,k,x,a,b,eE hk he c⟩
theorem FM (G:List Tok→dU) (hT:(xx G).ok Tryz.prog) (args:List D) (h:aa) (K E:D→aa→Prop) (c:qo G args h K E):aO Tryz.prog 103 args h (dn.to K E):=by
 obtain ⟨l,s,id,k,x,rfl,hl,c⟩:=c
 exact ji (fun ok K0 E0 hw=>OM G hT l hl s id k x ok K0 E0 hw) c
def tbS (G:List Tok→dU):bf:=(xx G).j6 103 (qo G) (AK G)
theorem T_ {G:List Tok→dU}:(tbS G).q=(xx G).q:=rfl
theorem T8 {G:List Tok→dU}:(tbS G).a=(xx G).a:=rfl
theorem T9 {G:List Tok→dU} (g:FuncId) (args:List D) (h:aa) (K E:D→aa→Prop):(tbS G).c g args h K E=if g=103 then qo G args h K E else (xx G).c g args h K E:=rfl
theorem eQ:type_of% (And.intro @T_ (And.intro @T8 @T9)):=And.intro @T_ (And.intro @T8 @T9)
theorem WR (G:List Tok→dU) (hT:(xx G).ok Tryz.prog):(tbS G).ok Tryz.prog:=bf.cD hT (FM G hT)
set_option maxHeartbeats 1000000 in
theorem WL (G:List Tok→dU) (hG:∀l,mW (G l)) (hT:(xx G).ok Tryz.prog) (l:List Tok) (hl:uw l) (s:PS) (i1:Nat) (ok:cB l s) (K0:Nd→PS→Prop) (E0:Int→Int→Prop) (hw:jA (tA l (G l) s) (fun x s'=>cB l s'→K0 x s') E0):aO Tryz.prog 85 [.ptr i1 1 0] (aa.emp.set i1 (bV l s)) (ly cz l i1 K0 E0):=by
 refine aO.c8 (WR G hT) (dc:=cJ.none) (fun _ _=>cJ.eM) (by kernel_rfl) aae (by simp) ?_
 rw [dz]
 have hp:=fun (h:aa) (j:Nat) (B C:cI)=>push_id (id:=i1) h j B C
 unfold tA at hw
 rw [aE] at hw
 simp (maxSteps:=1000000) only [ZI,eQ,hp,hp,ao,aw,ah,aj,aD,aU,aW,ag,ae,ab,af,ax,aC,an,aB,seval]
 intro i2 al ak
 refine ⟨l,s,i1,Fq,rfl,hl.lo,(by simp [al,ak]),ok,ay (fun b bZ e1 k gg=>?_) (fun a e k s'=>?_) hw⟩
 case refine_2=>
  simp only [bu,ab,ax]
  exact aA (s':=s') (by simp [al,ak]) k
 cases b with
 | true=>
  rw [cond_true] at k
  simp (maxSteps:=1000000) only [eQ,hp,al,ak,ao,aw,ah,aj,aD,aU,aW,ag,ae,ab,af,ax,aC,an,aB,seval]
  refine ⟨l,bZ,i1,rfl,hl,(by simp [al,ak]),gg,ay (fun n t1 f1 k Lr=>?_) (fun a e k s'=>?_) k⟩
  case refine_2=>
   simp only [bu,ab,ax]
   exact aA (s':=s') (by simp [al,ak]) k
  simp (maxSteps:=1000000) only [cz,eQ,hp,al,ak,ao,aw,ah,aj,aD,aU,aW,ag,ae,ab,af,ax,aC,an,aB,seval]
  exact cd (x:=n) (s':=t1) rfl (by simp [al,ak]) (k Lr)
 | false=>
 rw [cond_false,aE] at k
 simp (maxSteps:=1000000) only [eQ,hp,al,ak,ao,aw,ah,aj,aD,aU,aW,ag,ae,ab,af,ax,aC,an,aB,seval]
 refine ⟨l,bZ,i1,Fg,rfl,hl.lo,(by simp [al,ak]),gg,ay (fun b dT e2 k jV=>?_) (fun a e k s'=>?_) k⟩
 case refine_2=>
  simp only [bu,ab,ax]
  exact aA (s':=s') (by simp [al,ak]) k
 cases b with
 | true=>
  rw [cond_true,aE] at k
  simp (maxSteps:=1000000) only [eQ,hp,al,ak,ao,aw,ah,aj,aD,aU,aW,ag,ae,ab,af,ax,aC,an,aB,seval]
  refine .inl ⟨l,dT,i1,.mk 10 0 [] 0 [],by simp only [aR,bt],hl.lo,(by simp [al,ak]),jV,ay (fun n ez e3 k mQ=>?_) (fun a e k s'=>?_) k⟩
  case refine_2=>
   simp only [bu,ab,ax]
   exact aA (s':=s') (by simp [al,ak]) k
  obtain ⟨nk,nt,ns,nm,nl⟩:=n
  rw [aE] at k
  simp (maxSteps:=1000000) only [cz,aR,eQ,hp,al,ak,ao,aw,ah,aj,aD,aU,aW,ag,ae,ab,af,ax,aC,an,aB,seval]
  intro i3 av ar au aq
  refine ⟨l,ez,i1,0,rfl,hl,(by simp [al,ak,av,ar,au,aq]),mQ,ay (fun x mK e4 k uq=>?_) (fun a e k s'=>?_) k⟩
  case refine_2=>
   simp only [bu,ab,ax]
   exact aA (s':=s') (by simp [al,ak,av,ar,au,aq]) k
  rw [aE] at k
  simp (maxSteps:=1000000) only [cz,eQ,hp,al,ak,av,ar,au,aq,ao,aw,ah,aj,aD,aU,aW,ag,ae,ab,af,ax,aC,an,aB,seval]
  refine ⟨l,mK,i1,rfl,hl,(by simp [al,ak,av,ar,au,aq]),uq,ay (fun y xw e5 k Dm=>?_) (fun a e k s'=>?_) k⟩
  case refine_2=>
   simp only [bu,ab,ax]
   exact aA (s':=s') (by simp [al,ak,av,ar,au,aq]) k
  rw [b_] at k
  simp (maxSteps:=1000000) only [cz,eQ,hp,al,ak,av,ar,au,aq,ao,aw,ah,aj,aD,aU,aW,ag,ae,ab,af,ax,aC,an,aB,seval]
  exact cd (x:=.mk nk nt ns nm [x,y]) (s':=xw) (by rw [cz,aR,cj,cj,bt]) (by simp [al,ak,av,ar,au,aq]) (k Dm)
 | false=>
 rw [cond_false,aE] at k
 simp (maxSteps:=1000000) only [eQ,hp,al,ak,ao,aw,ah,aj,aD,aU,aW,ag,ae,ab,af,ax,aC,an,aB,seval]
 refine ⟨l,dT,i1,lf,rfl,hl.lo,(by simp [al,ak]),jV,ay (fun b ez e3 k mQ=>?_) (fun a e k s'=>?_) k⟩
 case refine_2=>
  simp only [bu,ab,ax]
  exact aA (s':=s') (by simp [al,ak]) k
 cases b with
 | true=>
  rw [cond_true] at k
  simp (maxSteps:=1000000) only [eQ,hp,al,ak,ao,aw,ah,aj,aD,aU,aW,ag,ae,ab,af,ax,aC,an,aB,seval]
  refine ⟨l,ez,i1,11,[],rfl,hl,(by simp [al,ak]),mQ,ay (fun n t1 f1 k Lr=>?_) (fun a e k s'=>?_) k⟩
  case refine_2=>
   simp only [bu,ab,ax]
   exact aA (s':=s') (by simp [al,ak]) k
  simp (maxSteps:=1000000) only [cz,eQ,hp,al,ak,ao,aw,ah,aj,aD,aU,aW,ag,ae,ab,af,ax,aC,an,aB,seval]
  exact cd (x:=n) (s':=t1) rfl (by simp [al,ak]) (k Lr)
 | false=>
 rw [cond_false,aE] at k
 simp (maxSteps:=1000000) only [eQ,hp,al,ak,ao,aw,ah,aj,aD,aU,aW,ag,ae,ab,af,ax,aC,an,aB,seval]
 refine ⟨l,ez,i1,ld,rfl,hl.lo,(by simp [al,ak]),mQ,ay (fun b mK e4 k uq=>?_) (fun a e k s'=>?_) k⟩
 case refine_2=>
  simp only [bu,ab,ax]
  exact aA (s':=s') (by simp [al,ak]) k
 cases b with
 | true=>
  rw [cond_true] at k
  simp (maxSteps:=1000000) only [eQ,hp,al,ak,ao,aw,ah,aj,aD,aU,aW,ag,ae,ab,af,ax,aC,an,aB,seval]
  refine ⟨l,mK,i1,12,[],rfl,hl,(by simp [al,ak]),uq,ay (fun n t1 f1 k Lr=>?_) (fun a e k s'=>?_) k⟩
  case refine_2=>
   simp only [bu,ab,ax]
   exact aA (s':=s') (by simp [al,ak]) k
  simp (maxSteps:=1000000) only [cz,eQ,hp,al,ak,ao,aw,ah,aj,aD,aU,aW,ag,ae,ab,af,ax,aC,an,aB,seval]
  exact cd (x:=n) (s':=t1) rfl (by simp [al,ak]) (k Lr)
 | false=>
 rw [cond_false,aE] at k
 simp (maxSteps:=1000000) only [eQ,hp,al,ak,ao,aw,ah,aj,aD,aU,aW,ag,ae,ab,af,ax,aC,an,aB,seval]
 refine ⟨l,mK,i1,Ai,rfl,hl.lo,(by simp [al,ak]),uq,ay (fun b xw e5 k Dm=>?_) (fun a e k s'=>?_) k⟩
 case refine_2=>
  simp only [bu,ab,ax]
  exact aA (s':=s') (by simp [al,ak]) k
 cases b with
 | true=>
  rw [cond_true,aE] at k
  simp (maxSteps:=1000000) only [eQ,hp,al,ak,ao,aw,ah,aj,aD,aU,aW,ag,ae,ab,af,ax,aC,an,aB,seval]
  refine ⟨l,xw,i1,[59],rfl,hl.lo,(by simp [al,ak]),Dm,ay (fun _ wF e6 k Lq=>?_) (fun a e k s'=>?_) k⟩
  case refine_2=>
   simp only [bu,ab,ax]
   exact aA (s':=s') (by simp [al,ak]) k
  simp (maxSteps:=1000000) only [eQ,hp,al,ak,ao,aw,ah,aj,aD,aU,aW,ag,ae,ab,af,ax,aC,an,aB,seval]
  refine .inl ⟨l,wF,i1,.mk 14 0 [] 0 [],by simp only [aR,bt],hl.lo,(by simp [al,ak]),Lq,ay (fun n t1 f1 k Lr=>?_) (fun a e k s'=>?_) k⟩
  case refine_2=>
   simp only [bu,ab,ax]
   exact aA (s':=s') (by simp [al,ak]) k
  simp (maxSteps:=1000000) only [cz,eQ,hp,al,ak,ao,aw,ah,aj,aD,aU,aW,ag,ae,ab,af,ax,aC,an,aB,seval]
  exact cd (x:=n) (s':=t1) rfl (by simp [al,ak]) (k Lr)
 | false=>
 rw [cond_false,aE] at k
 simp (maxSteps:=1000000) only [eQ,hp,al,ak,ao,aw,ah,aj,aD,aU,aW,ag,ae,ab,af,ax,aC,an,aB,seval]
 refine ⟨l,xw,i1,rfl,hl.lo,(by simp [al,ak]),Dm,ay (fun x wF e6 k Lq=>?_) (fun a e k s'=>?_) k⟩
 case refine_2=>
  simp only [bu,ab,ax]
  exact aA (s':=s') (by simp [al,ak]) k
 rw [aE] at k
 simp (maxSteps:=1000000) only [eQ,hp,al,ak,ao,aw,ah,aj,aD,aU,aW,ag,ae,ab,af,ax,aC,an,aB,seval]
 refine ⟨l,wF,i1,[58,61],rfl,hl.lo,(by simp [al,ak]),Lq,ay (fun b BK e7 k Xr=>?_) (fun a e k s'=>?_) k⟩
 case refine_2=>
  simp only [bu,ab,ax]
  exact aA (s':=s') (by simp [al,ak]) k
 cases b with
 | true=>
  rw [cond_true] at k
  simp (maxSteps:=1000000) only [eQ,hp,al,ak,ao,aw,ah,aj,aD,aU,aW,ag,ae,ab,af,ax,aC,an,aB,seval]
  refine ⟨l,BK,i1,7,x,rfl,hl,(by simp [al,ak]),Xr,ay (fun n t1 f1 k Lr=>?_) (fun a e k s'=>?_) k⟩
  case refine_2=>
   simp only [bu,ab,ax]
   exact aA (s':=s') (by simp [al,ak]) k
  simp (maxSteps:=1000000) only [cz,eQ,hp,al,ak,ao,aw,ah,aj,aD,aU,aW,ag,ae,ab,af,ax,aC,an,aB,seval]
  exact cd (x:=n) (s':=t1) rfl (by simp [al,ak]) (k Lr)
 | false=>
 rw [cond_false,aE] at k
 simp (maxSteps:=1000000) only [eQ,hp,al,ak,ao,aw,ah,aj,aD,aU,aW,ag,ae,ab,af,ax,aC,an,aB,seval]
 refine ⟨l,BK,i1,[61],rfl,hl.lo,(by simp [al,ak]),Xr,ay (fun b ZJ e8 k ok8=>?_) (fun a e k s'=>?_) k⟩
 case refine_2=>
  simp only [bu,ab,ax]
  exact aA (s':=s') (by simp [al,ak]) k
 cases b with
 | true=>
  rw [cond_true] at k
  simp (maxSteps:=1000000) only [eQ,hp,al,ak,ao,aw,ah,aj,aD,aU,aW,ag,ae,ab,af,ax,aC,an,aB,seval]
  refine ⟨l,ZJ,i1,8,x,rfl,hl,(by simp [al,ak]),ok8,ay (fun n t1 f1 k Lr=>?_) (fun a e k s'=>?_) k⟩
  case refine_2=>
   simp only [bu,ab,ax]
   exact aA (s':=s') (by simp [al,ak]) k
  simp (maxSteps:=1000000) only [cz,eQ,hp,al,ak,ao,aw,ah,aj,aD,aU,aW,ag,ae,ab,af,ax,aC,an,aB,seval]
  exact cd (x:=n) (s':=t1) rfl (by simp [al,ak]) (k Lr)
 | false=>
 rw [cond_false,aE] at k
 simp (maxSteps:=1000000) only [eQ,hp,al,ak,ao,aw,ah,aj,aD,aU,aW,ag,ae,ab,af,ax,aC,an,aB,seval]
 refine .inl ⟨l,ZJ,i1,.mk 13 0 [] 0 [],by simp only [aR,bt],hl.lo,(by simp [al,ak]),ok8,ay (fun n s9p e9 k ok9=>?_) (fun a e k s'=>?_) k⟩
 case refine_2=>
  simp only [bu,ab,ax]
  exact aA (s':=s') (by simp [al,ak]) k
 obtain ⟨nk,nt,ns,nm,nl⟩:=n
 rw [aE] at k
 simp (maxSteps:=1000000) only [cz,aR,eQ,hp,al,ak,ao,aw,ah,aj,aD,aU,aW,ag,ae,ab,af,ax,aC,an,aB,seval]
 intro i3 av ar au aq
 refine ⟨l,s9p,i1,x,rfl,hl,(by simp [al,ak,av,ar,au,aq]),ok9,ay (fun y t1 f1 k Lr=>?_) (fun a e k s'=>?_) k⟩
 case refine_2=>
  simp only [bu,ab,ax]
  exact aA (s':=s') (by simp [al,ak,av,ar,au,aq]) k
 rw [aE] at k
 simp (maxSteps:=1000000) only [cz,eQ,hp,al,ak,av,ar,au,aq,ao,aw,ah,aj,aD,aU,aW,ag,ae,ab,af,ax,aC,an,aB,seval]
 refine ⟨l,t1,i1,[59],rfl,hl.lo,(by simp [al,ak,av,ar,au,aq]),Lr,ay (fun _ t2 f2 k oku=>?_) (fun a e k s'=>?_) k⟩
 case refine_2=>
  simp only [bu,ab,ax]
  exact aA (s':=s') (by simp [al,ak,av,ar,au,aq]) k
 rw [b_] at k
 simp (maxSteps:=1000000) only [cz,eQ,hp,al,ak,av,ar,au,aq,ao,aw,ah,aj,aD,aU,aW,ag,ae,ab,af,ax,aC,an,aB,seval]
 exact cd (x:=.mk nk nt ns nm [y]) (s':=t2) (by rw [cz,aR,cj,bt]) (by simp [al,ak,av,ar,au,aq]) (k oku)
end
end Go.Proofs.YtpklkpkfgmoghaaGreatDoor.Zz
